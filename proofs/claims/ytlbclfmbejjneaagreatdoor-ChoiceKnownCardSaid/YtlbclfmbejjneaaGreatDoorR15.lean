/- Part 15 (merged by a program): lemmas of no further condition than each states. -/
import Derived.Laws.StructEq
import Derived.Test.YtlbclfmbejjneaaGreatDoorR14
namespace Go.Proofs.YtlbclfmbejjneaaGreatDoor
set_option linter.unusedVariables false
set_option linter.unusedSimpArgs false
section
open Go.RowKit Go.Proofs Go.Shelf
attribute [local go_sem] Oper.semAt_some
set_option maxRecDepth 100000 in
set_option maxHeartbeats 400000 in
theorem words1_inC (n:Nat) (l E S G n₀:Nat) (s:ByteArray) (es:List Nat) (a:Option Addr) (cap:Nat) (hs:s.size≤2097152) (hes:EndsUp s.size 0 es) (hez:es.length≤2097152) (ha:es≠[]→a=some ⟨G,0,none⟩)
 (J Jx:List (PieceOf s)→World→Prop) (W:World) (hle:n₀≤W.heap.size)
 (hY:∀pre x W1,J pre W1→(pre++[x]).map (·.1) <+: partsF s 0 es→W.heap.size≤W1.heap.size→YieldAt Fence.wide n Tryz.prog l (encP x.1) W1 fun e W'=>KeepsFrom W.heap.size W1 W' ∧
   ((e=.returned (.bool true)∧J (pre++[x]) W'∧KpL [E,S,G] n₀ W1 W')∨(e=.returned (.bool false)∧Jx (pre++[x]) W')))
 (hE:Boxed W E 56 (.slice a es.length cap)) (hS:Boxed W S 9 (.string s)) (hG:es≠[]→EndsAt W G es) (h0:J [] W) :
 CallsIn Fence.wide n Tryz.prog 98 #[.func (.yield l) #[] #[],.pointer (some ⟨E,0,none⟩),.pointer (some ⟨S,0,none⟩)] W fun e W'=>(∃v,e=.returned v) ∧
  ((∃ys:List (PieceOf s),ys.map (·.1)=partsF s 0 es∧J ys W')∨(∃pre:List (PieceOf s),pre.map (·.1) <+: partsF s 0 es∧Jx pre W')):=by
 have HY:=lh hY
 obtain⟨m,hm⟩:∃m,es.length=m:=⟨_,rfl⟩
 rw [hm] at hE
 have hcE:=hE.cell
 clear hY
 refine callsIn_wide.2 ((callsIn_wide (n:=4)).1 ?_)
 refine callsIn_of_wp Tryz.func98 rfl trivial ?_ rfl
 simp only [Tryz.ntmps98,List.size_toArray,List.length_cons,List.length_nil,Nat.reduceAdd,Nat.reduceSub,Array.replicate_succ,Array.replicate_zero,List.push_toArray,List.append_toArray,List.nil_append,List.cons_append]
 gi_wp2_with (fail)
 clear hcE
 gi_loopw [4,6,9] (fun u4 _ u9 wr=>∃(i at':Nat) (pre:List (PieceOf s)),u9=.int .i64 i∧u4=.int .i64 at'∧i≤m∧at'≤s.size∧EndsUp s.size at' (es.drop i)∧partsF s 0 es=pre.map (·.1)++partsF s at' (es.drop i)∧pre.length=i∧J pre wr∧W.heap.size≤wr.heap.size∧Below n₀ W wr∧Boxed wr S 9 (.string s)∧(es≠[]→EndsAt wr G es))
  (fun _ _ u9 _=>m-(intOf u9).toNat)
 case atStart=>exact⟨0,0,[],rfl,rfl,Nat.zero_le _,Nat.zero_le _,by rw [List.drop_zero];exact hes,by rw [List.drop_zero];rfl,rfl,h0,Nat.le_refl _,Below.refl _ _,hS,hG⟩
 case round =>
  obtain⟨i,at',pre,rfl,rfl,hi,haz,hup,hp,hpl,hJp,hsz,hb,hSr,hGr⟩:=hrel
  by_cases hlt:i<m
  ·obtain⟨e,he⟩:∃e,es[i]? = some e:=⟨_,List.getElem?_eq_getElem (by omega)⟩
   have hne:es≠[]:=fun h=>by rw [h] at he;cases he
   have hae:=ha hne
   subst hae
   have hds:es.drop i=e::es.drop (i+1):=by
    rw [List.drop_eq_getElem_cons (by omega)]
    congr 1
    have:=List.getElem?_eq_getElem (l:=es) (i:=i) (by omega)
    rw [he] at this
    exact (Option.some.inj this).symm
   rw [hds,EndsUp] at hup
   obtain⟨u1,u2,u3⟩:=hup
   rw [hds,partsF] at hp
   have c0:=(hGr hne).cell he
   have cS:=hSr.cell
   obtain⟨c,hc⟩:∃c,s.extract at' e=c:=⟨_,rfl⟩
   rw [hc] at hp
   have hpc:at'+c.size≤s.size:=by rw [←hc];simp [ByteArray.size_extract];omega
   obtain⟨pc,hpcv⟩:∃pc:PieceOf s,pc.1=(at',c):=⟨⟨(at',c),hpc⟩,rfl⟩
   have HPC:=lh hpcv
   have HP:=lh hp
   have HC:=lh hc
   have HU:=lh u3
   have HL:=lh hpl
   have HSr:=lh hSr
   have HGr:=lh (hGr hne)
   have HB:=lh hb
   have HJp:=lh hJp
   have HM:=lh hm
   have g0:(0:Int)≤(at':Int):=by omega
   have g1:(at':Int)≤(e:Int):=by omega
   have g2:(e:Int)≤(s.size:Int):=by omega
   have g3:(i:Int)<(m:Int):=by omega
   have hwk:IntKind.i64.wrap ((i:Int)+1)=(i:Int)+1:=by rw [IntKind.wrap_i64];omega
   clear hpcv hp hpl u3 hGr hSr hb hJp hds he hes hG hE hS h0 hc
   gi_upto_region 4 with (fail)
   obtain⟨fn,tmps,assign,body,hy,hR⟩:=HY.out pre pc wr HJp.out ⟨partsF s e (es.drop (i+1)),by rw [HP.out,List.map_append,List.append_assoc,List.map_singleton,HPC.out];rfl⟩ hsz
   rw [HPC.out] at hy
   dsimp only [encP] at hy
   rw [←HC.out] at hy
   have HR:=lh hR
   clear hR
   gi_wp2_with (fail)
   refine (roundAny HR.out none).mono ?_
   rintro e' W3 ⟨hkf,(⟨rfl,hJ3,hk3⟩ | ⟨rfl,hJx3⟩)⟩
   ·have hb3:=HB.out.trans hk3.1
    have hs3:=hk3.box (b:=S) (by simp) HSr.out
    have hg3:=HGr.out.keep hk3 (by simp)
    clear hy HR hk3 c0 cS
    gi_wp2_with (fail)
    go_roundw
    case rel=>exact⟨i+1,e,pre++[pc],by go_num,rfl,by omega,by omega,HU.out,by rw [HP.out,List.map_append,List.append_assoc,List.map_singleton,HPC.out];rfl,by rw [List.length_append,HL.out];rfl,hJ3,Nat.le_trans hsz hkf.size,hb3,hs3,fun _=>hg3⟩
    case measure=>simp [intOf];omega
   ·clear hy HR
    gi_wp2_with (fail)
    refine bodyPost_ret (results_none rfl _ _ _) rfl ?_
    exact⟨⟨_,rfl⟩,.inr ⟨pre++[pc],⟨partsF s e (es.drop (i+1)),by rw [HP.out,List.map_append,List.append_assoc,List.map_singleton,HPC.out];rfl⟩,hJx3⟩⟩
  ·obtain rfl:i=m:=by omega
   rw [List.drop_eq_nil_of_le (by omega),partsF,List.append_nil] at hp
   have HP:=lh hp
   clear hp hup hm
   gi_wp2_with (fail)
   go_end0
   exact⟨⟨_,rfl⟩,.inl ⟨pre,HP.out.symm,hJp⟩⟩
theorem words_stopsC (E S G n₀:Nat) (s:ByteArray) (es:List Nat) (a:Option Addr) (cap:Nat) (hs:s.size≤2097152) (hes:EndsUp s.size 0 es) (hez:es.length≤2097152) (ha:es≠[]→a=some ⟨G,0,none⟩) (w:World) (hle:n₀≤w.heap.size)
 (hE:Boxed w E 56 (.slice a es.length cap)) (hS:Boxed w S 9 (.string s)) (hG:es≠[]→EndsAt w G es) :
 SeqStopsC 0 Tryz.prog 98 #[.pointer (some ⟨E,0,none⟩),.pointer (some ⟨S,0,none⟩)] (fun x:PieceOf s=>encP x.1) (KpL [E,S,G] n₀) (fun xs=>xs.map (·.1)=partsF s 0 es) (fun pre=>pre.map (·.1) <+: partsF s 0 es) w:=fun n l J Jx W hW hJ hJx hY h0=>by
 have hb:∀{b t:Nat} {v:Value},Boxed w b t v→Boxed W b t v:=fun h=>(hW.block _ (Array.getElem?_eq_some_iff.1 h).1).trans h
 exact words1_inC n l E S G n₀ s es a cap hs hes hez ha J Jx W (Nat.le_trans hle hW.size) hY (hb hE) (hb hS) (fun h=>by
  obtain⟨cur,t,f,h1,h2⟩:=hG h
  exact⟨cur,t,f,(hW.block _ (Array.getElem?_eq_some_iff.1 h1).1).trans h1,h2⟩) h0
end
section
theorem ext_eq2 {t:ByteArray} {a b c d:Nat} (h1:a=c) (h2:b=d):t.extract a b=t.extract c d:=by rw [h1,h2]
theorem ext_get (s:ByteArray) (i j:Nat) (hi:i≤s.size):(s.extract i s.size).get! j=s.get! (i+j):=by
 show (s.extract i s.size).data[j]! = s.data[i+j]!
 by_cases h:i+j<s.size
 ·have e1:j<(s.extract i s.size).data.size:=by
   have:=ext_size s i hi
   show j<(s.extract i s.size).size
   omega
  rw [getElem!_pos (s.extract i s.size).data j e1,getElem!_pos s.data (i+j) h]
  simp [ByteArray.data_extract]
 ·have e1:¬ j<(s.extract i s.size).data.size:=by
   have:=ext_size s i hi
   show ¬ j<(s.extract i s.size).size
   omega
  rw [getElem!_neg (s.extract i s.size).data j e1,getElem!_neg s.data (i+j) h]
theorem dec_ext (s:ByteArray) (i j:Nat) (hi:i≤s.size):Utf8.decode (s.extract i s.size) j=Utf8.decode s (i+j):=by
 rw [Lib.decode_at,Lib.decode_at,ext_size s i hi,ext_get s i _ hi,ext_get s i _ hi,ext_get s i _ hi,ext_get s i _ hi]
 rw [show s.size-i-j=s.size-(i+j) by omega,←Nat.add_assoc,←Nat.add_assoc,←Nat.add_assoc]
theorem runesF_fuel (s:ByteArray):∀(f g i:Nat),s.size≤i+f→s.size≤i+g→runesF s f i=runesF s g i
 | 0,0,i,hf,hg=>rfl
 | 0,g+1,i,hf,hg=>by rw [runesF,runesF,if_neg (by omega)]
 | f+1,0,i,hf,hg=>by rw [runesF,runesF,if_neg (by omega)]
 | f+1,g+1,i,hf,hg=>by
   rw [runesF,runesF]
   split
   ·rename_i h
    have:=Lib.decode_width_pos s i h
    rw [runesF_fuel s f g _ (by omega) (by omega)]
   ·rfl
theorem runesF_shift (s:ByteArray) (i:Nat) (hi:i≤s.size):∀(f j:Nat),runesF (s.extract i s.size) f j=runesF s f (i+j)
 | 0,j=>rfl
 | f+1,j=>by
   rw [runesF,runesF,ext_size s i hi,dec_ext s i j hi]
   by_cases h:i+j<s.size
   ·rw [if_pos (by omega),if_pos h,runesF_shift s i hi f,Nat.add_assoc]
   ·rw [if_neg (by omega),if_neg h]
theorem runesI_nil (t:ByteArray) (h:t.size=0):runesI t=[]:=by unfold runesI;rw [h];rfl
theorem dec_go (t:ByteArray) (h:0<t.size):Utf8.decode t 0=Lib.decodeGo t:=by unfold Lib.decodeGo;rw [if_neg (by omega)]
theorem runesI_cons (t:ByteArray) (h:0<t.size):runesI t=decR t::runesI (t.extract (decN t) t.size):=by
 have hn:=decN_le t
 unfold runesI
 obtain⟨k,hk⟩:∃k,t.size=k+1:=⟨t.size-1,by omega⟩
 rw [runesF_shift t (decN t) hn,ext_size t _ hn]
 rw [hk,runesF,if_pos (by omega),dec_go t h,Nat.zero_add,Nat.add_zero]
 have hp:=decN_pos t h
 show _::runesF t k (decN t)=_
 rw [runesF_fuel t k (k+1-decN t) (decN t) (by omega) (by omega)]
 rfl
inductive Rch:ByteArray→Nat→Prop
 | zero (t:ByteArray):Rch t 0
 | step (t:ByteArray) (k:Nat):0<t.size→decN t≤k→k≤t.size→Rch (t.extract (decN t) t.size) (k-decN t)→Rch t k
theorem ext_all (t:ByteArray):t.extract 0 t.size=t:=by
 apply ByteArray.ext
 simp [ByteArray.data_extract]
theorem runes_split {t:ByteArray} {k:Nat} (h:Rch t k):runesI t=runesI (t.extract 0 k)++runesI (t.extract k t.size):=by
 induction h with
 | zero t=>rw [runesI_nil (t.extract 0 0) (by simp [ByteArray.size_extract]),List.nil_append,ext_all]
 | step t k h1 h2 h3 h4 ih =>
   have hp:=decN_pos t h1
   have hz:(t.extract 0 k).size=k:=by simp [ByteArray.size_extract];omega
   have hcd:=cut_dec t k (by omega) h3
   rw [if_pos h2] at hcd
   have e1:decR (t.extract 0 k)=decR t:=by unfold decR;rw [hcd]
   have e2:decN (t.extract 0 k)=decN t:=by unfold decN;rw [hcd]
   have ez:=ext_size t (decN t) (by omega)
   rw [runesI_cons t h1,ih,runesI_cons (t.extract 0 k) (by omega),e1,e2,hz,List.cons_append]
   have a1:(t.extract 0 k).extract (decN t) k=(t.extract (decN t) t.size).extract 0 (k-decN t):=by
    rw [ext_ext,ext_ext]
    exact ext_eq2 (by omega) (by omega)
   have a2:t.extract k t.size=(t.extract (decN t) t.size).extract (k-decN t) (t.extract (decN t) t.size).size:=by
    rw [ez,ext_ext]
    exact ext_eq2 (by omega) (by omega)
   rw [a1,a2]
theorem Rch.one {t:ByteArray} (h:0<t.size):Rch t (decN t):=Rch.step t _ h (Nat.le_refl _) (decN_le t) (by rw [Nat.sub_self];exact Rch.zero _)
theorem Rch.trans {t:ByteArray} {k m:Nat} (h:Rch t k) (h2:Rch (t.extract k t.size) m) (hm:k+m≤t.size):Rch t (k+m):=by
 induction h with
 | zero t=>rw [ext_all] at h2;rw [Nat.zero_add];exact h2
 | step t k a1 a2 a3 a4 ih =>
   have ez:=ext_size t (decN t) (by omega)
   refine Rch.step t _ a1 (by omega) hm ?_
   have:=ih (by
    rw [ez,ext_ext,show decN t+(k-decN t)=k by omega,show min (decN t+(t.size-decN t)) t.size=t.size by omega]
    exact h2) (by rw [ez];omega)
   rw [show k+m-decN t=k-decN t+m by omega]
   exact this
theorem more_rch (x:Int) (s:ByteArray):∀(f n:Nat) (z:Int) (a:Nat),a≤s.size→Rch s a→Rch s (moreF x s f n z a)
 | 0,_,_,a,ha,h=>h
 | f+1,n,z,a,ha,h=>by
   rw [moreF]
   split
   ·exact h
   ·rename_i hn
    split
    ·have hz:=ext_size s a ha
     have hne:a≠s.size:=fun e=>hn (.inl e)
     have hl:=decN_le (s.extract a s.size)
     exact more_rch x s f _ _ _ (by omega) (h.trans (Rch.one (by omega)) (by omega))
    ·exact h
theorem next_rch (s:ByteArray) (h:0<s.size):Rch s (nextI s):=by
 unfold nextI
 rw [if_neg (by omega)]
 split
 ·split
  ·rename_i e
   have h1:=decR_13 s e.1
   have hr:=Rch.one h
   rw [h1] at hr
   have hz:=ext_size s 1 (by omega)
   have hd:Lib.decodeGo (s.extract 1 s.size)=(10,1):=by
    rw [←dec_go _ (by omega),Lib.decode_at,ext_get s 1 0 (by omega)]
    have hb:(s.get! (1+0)).toNat=10:=by rw [Nat.add_zero,e.2.2];rfl
    rw [hb]
    unfold Lib.decodeN
    rw [if_pos (by omega)]
   have hn:decN (s.extract 1 s.size)=1:=by unfold decN;rw [hd]
   have:=hr.trans (Rch.one (t:=s.extract 1 s.size) (by omega)) (by rw [hn];omega)
   rw [hn] at this
   exact this
  ·exact Rch.one h
 ·exact more_rch _ s 31 1 _ _ (decN_le s) (Rch.one h)
theorem runes_pieces (T:ByteArray):∀(f a:Nat),a≤T.size→T.size≤a+f→runesI (T.extract a T.size)=((piecesF T f a).map (·.2)).flatMap runesI
 | 0,a,ha,hf=>by
   rw [runesI_nil _ (by rw [ext_size T a ha];omega)];rfl
 | f+1,a,ha,hf=>by
   rw [piecesF]
   by_cases h:a<T.size
   ·have hz:=ext_size T a ha
    have hn:=nextI_bd (T.extract a T.size) (by omega)
    rw [if_pos h,List.map_cons,List.flatMap_cons,←runes_pieces T f (a+nextI (T.extract a T.size)) (by omega) (by omega),runes_split (next_rch (T.extract a T.size) (by omega))]
    generalize nextI (T.extract a T.size)=n at hn
    have a1:(T.extract a T.size).extract 0 n=T.extract a (a+n):=by
     rw [ext_ext];exact ext_eq2 (by omega) (by omega)
    have a2:(T.extract a T.size).extract n (T.extract a T.size).size=T.extract (a+n) T.size:=by
     rw [hz,ext_ext];exact ext_eq2 (by omega) (by omega)
    rw [a1,a2]
   ·rw [if_neg h,runesI_nil _ (by rw [ext_size T a ha];omega)];rfl
theorem runes_all (T:ByteArray):runesI T=((piecesI T).map (·.2)).flatMap runesI:=by
 have:=runes_pieces T T.size 0 (Nat.zero_le _) (by omega)
 rw [ext_all] at this
 exact this
theorem runesI_pos2 (t:ByteArray) (h:0<t.size):0<(runesI t).length:=by
 rw [runesI_cons t h];simp
end
section
open Go.RowKit Go.Proofs Go.Shelf
attribute [local go_sem] Oper.semAt_some
structure RowV where
 a:Int
 len:Int
 level:Int
 wide:Int
 fin:Int
deriving DecidableEq
def rcell (r:RowV):List Value:=[.int .i64 r.a,.int .i64 r.len,.int .u8 r.level,.int .i64 r.wide,.int .i8 r.fin]
theorem flat5_get (l:List RowV) (i:Nat) (r:RowV) (h:l[i]? = some r) (k:Nat) (v:Value) (hv:(rcell r)[k]? = some v):(l.flatMap rcell)[i*5+k]? = some v:=by
 have hk:k<5:=by
  have:=(List.getElem?_eq_some_iff.1 hv).1
  exact this
 induction l generalizing i with
 | nil=>simp at h
 | cons x l ih =>
   rw [List.flatMap_cons]
   cases i with
   | zero =>
     have:x=r:=by simpa using h
     subst this
     rw [Nat.zero_mul,Nat.zero_add,List.getElem?_append_left (show k<5 from hk)]
     exact hv
   | succ i =>
     rw [List.getElem?_append_right (show 5≤_ by omega),show (i+1)*5+k-(rcell x).length=i*5+k from by show (i+1)*5+k-5=_;omega]
     exact ih i (by simpa using h)
def RdR (w:World) (a:Option Addr) (l:List RowV):Prop :=
 l=[]∨∃b off,a=some ⟨b,off,none⟩∧b<w.heap.size∧∀i r,l[i]? = some r→∀k v,(rcell r)[k]? = some v→w.cell? ⟨b,off+i*5+k,none⟩=some v
theorem RdR.at {w:World} {a:Option Addr} {l:List RowV} (h:RdR w a l) (i:Nat) (r:RowV) (hr:l[i]? = some r) :
 ∃b off,a=some ⟨b,off,none⟩∧b<w.heap.size∧w.cell? ⟨b,off+i*5,none⟩=some (.int .i64 r.a)∧w.cell? ⟨b,off+i*5+1,none⟩=some (.int .i64 r.len)∧w.cell? ⟨b,off+i*5+2,none⟩=some (.int .u8 r.level) ∧
   w.cell? ⟨b,off+i*5+3,none⟩=some (.int .i64 r.wide)∧w.cell? ⟨b,off+i*5+4,none⟩=some (.int .i8 r.fin):=by
 rcases h with h | ⟨b,off,h1,h2,h3⟩
 ·subst h;simp at hr
 ·exact⟨b,off,h1,h2,h3 i r hr 0 _ rfl,h3 i r hr 1 _ rfl,h3 i r hr 2 _ rfl,h3 i r hr 3 _ rfl,h3 i r hr 4 _ rfl⟩
theorem take_snoc {α:Type} {l:List α} {i:Nat} {r:α} (h:l[i]? = some r):l.take (i+1)=l.take i++[r]:=by
 rw [List.take_add_one,h]
 rfl
theorem dropR_cons {α:Type} {l:List α} {i:Nat} {r:α} (h:l[i]? = some r):l.drop i=r::l.drop (i+1):=by
 obtain⟨h1,h2⟩:=List.getElem?_eq_some_iff.1 h
 rw [List.drop_eq_getElem_cons h1,h2]
end
section
def levelI (T:ByteArray) (want:Int) (raw:Bool):Int:=if raw=true then 0 else ((visualI (runesI T) want).2:Int)
def rulI (line:ByteArray) (w tab:Int) (wideA raw:Bool):Rul:=⟨whereI line,w,tab,wideA,raw⟩
def mkRow (lev:Int) (x:Nat × Nat × Int × Int):RowV:=⟨x.1,x.2.1,lev,x.2.2.1,x.2.2.2⟩
def rowsI (line:ByteArray) (w tab want:Int) (wideA raw:Bool):List RowV :=
 if w<1∨1024<w∨65536<line.size then []
 else (rowsFrom (rulI line w tab wideA raw) (textOf line) (countI line).isSome ((textOf line).size+1) 0 0).map (mkRow (levelI (textOf line) want raw))
theorem rowsF_len (r:Rul) (T:ByteArray) (e:Bool):∀(f a n:Nat),Bord T a n→(rowsFrom r T e f a n).length+a≤T.size+1
 | 0,a,n,h=>by have:=h.1;simp [rowsFrom];omega
 | f+1,a,n,h=>by
   obtain⟨b,_,h1,_⟩:=rowI_bord r T e a n h
   rw [rowsFrom,List.length_cons]
   split
   ·rename_i hc
    have:=h1 hc
    have:=rowsF_len r T e f _ _ b
    omega
   ·have:=h.1
    simp;omega
end
section
def szs:List ByteArray→Nat
 | []=>0
 | c::t=>c.size+szs t
theorem ext_eq {t:ByteArray} {a b c d:Nat} (h1:a=c) (h2:b=d):t.extract a b=t.extract c d:=by rw [h1,h2]
theorem cut_pieces (T:ByteArray) (a n:Nat) (h:Bord T a n) (P R:List ByteArray) (hP:(piecesF T T.size a).map (·.2)=P++R) :
 a+szs P≤T.size∧Bord T (a+szs P) (n+P.length)∧(piecesI (T.extract a (a+szs P))).map (·.2)=P∧(piecesF T T.size (a+szs P)).map (·.2)=R:=by
 induction P generalizing a n with
 | nil =>
   have hz:(T.extract a (a+szs [])).size=0:=by rw [szs];simp [ByteArray.size_extract]
   rw [szs,Nat.add_zero]
   refine⟨h.1,h,?_,by rw [hP];rfl⟩
   unfold piecesI
   rw [szs,Nat.add_zero] at hz
   rw [hz];rfl
 | cons x t ih =>
   have hlt:a<T.size:=by
    by_cases e:a<T.size
    ·exact e
    ·have:a=T.size:=by have:=h.1;omega
     rw [this,piecesF_nil] at hP;cases hP
   have hP0:=hP
   rw [piecesF_cons T a hlt,List.map_cons,List.cons_append] at hP
   obtain⟨hx,ht⟩:=List.cons.inj hP
   have hn:=nextI_bd (T.extract a T.size) (by rw [ext_size T a (by omega)];omega)
   rw [ext_size T a (by omega)] at hn
   have hxz:x.size=nextI (T.extract a T.size):=by rw [←hx];simp [ByteArray.size_extract];omega
   obtain⟨i1,i2,i3,i4⟩:=ih (a+nextI (T.extract a T.size)) (n+1) (h.next hlt) ht
   have hs:a+szs (x::t)=a+nextI (T.extract a T.size)+szs t:=by rw [szs,hxz];omega
   rw [hs]
   refine⟨i1,by rw [List.length_cons,show n+(t.length+1)=n+1+t.length by omega];exact i2,?_,i4⟩
   obtain⟨e,he⟩:∃e,a+nextI (T.extract a T.size)+szs t=e:=⟨_,rfl⟩
   rw [he] at i1 i3 ⊢
   obtain⟨u,hu⟩:∃u,T.extract a T.size=u:=⟨_,rfl⟩
   have huz:u.size=T.size-a:=by rw [←hu];exact ext_size T a (by omega)
   have hcut:T.extract a e=u.extract 0 (e-a):=by
    rw [←hu,ext_ext]
    exact ext_eq (by omega) (by omega)
   rw [hu] at hn hxz hx he i3
   have hnc:=next_cut u (e-a) (by omega) (by omega)
   rw [hcut]
   have hz:(u.extract 0 (e-a)).size=e-a:=by simp [ByteArray.size_extract];omega
   unfold piecesI
   rw [hz]
   have hc:=piecesF_cons (u.extract 0 (e-a)) 0 (by rw [hz];omega)
   rw [hz,show (u.extract 0 (e-a)).extract 0 (e-a)=u.extract 0 (e-a) by rw [ext_ext];exact ext_eq (by omega) (by omega),hnc,Nat.zero_add] at hc
   have hq0:u.extract 0 (nextI u)=x:=by
    rw [←hx]
    generalize nextI u=m at hn hxz he
    rw [←hu,ext_ext]
    exact ext_eq (by omega) (by omega)
   have hq:(u.extract 0 (e-a)).extract (nextI u) (e-a)=T.extract (a+nextI u) e:=by
    generalize nextI u=m at hn hxz he
    rw [←hu,ext_ext,ext_ext]
    exact ext_eq (by omega) (by omega)
   have hq1:(u.extract 0 (e-a)).extract 0 (nextI u)=x:=by
    rw [←hq0,ext_ext]
    exact ext_eq (by omega) (by omega)
   rw [hc,List.map_cons,hq1]
   refine congrArg (x::·) ?_
   have hp:=pieces_tail (u.extract 0 (e-a)) (nextI u) (by rw [hz];omega)
   rw [hz,hq] at hp
   rw [hp,List.map_map,←i3]
   rfl
end
section
def clAtF (x:Nat):List (Nat × ByteArray)→Nat→Nat × Nat
 | [],n=>(n,n)
 | p::t,n=>if x<p.1+p.2.size then (p.1,p.1+p.2.size) else clAtF x t n
def clAt (s:ByteArray) (x:Int):Nat × Nat:=clAtF (min x.toNat s.size) (piecesI s) s.size
def upB (s:ByteArray) (x:Nat):Nat:=if (clAt s x).1=x then x else (clAt s x).2
theorem pieces_mid (s:ByteArray):∀(L:List (Nat × ByteArray)) (a b:Nat),a≤s.size→b≤s.size→piecesF s s.size a=L++piecesF s s.size b →
 a+szs (L.map (·.2))=b∧(∀p∈L,a≤p.1∧p.1<b∧p.1+p.2.size≤b∧0<p.2.size)∧(L=[]→a=b)
 | [],a,b,ha,hb,h=>by
   have hab:a=b:=by
    by_cases h1:a<s.size
    ·rw [List.nil_append,piecesF_cons s a h1] at h
     by_cases h2:b<s.size
     ·rw [piecesF_cons s b h2] at h
      have:=(List.cons.inj h).1
      injection this
     ·rw [show b=s.size by omega,piecesF_nil] at h;cases h
    ·rw [List.nil_append,show a=s.size by omega,piecesF_nil] at h
     by_cases h2:b<s.size
     ·rw [piecesF_cons s b h2] at h;cases h
     ·omega
   exact⟨by simp [szs,hab],(fun p hp=>by cases hp),fun _=>hab⟩
 | q::t,a,b,ha,hb,h=>by
   have hlt:a<s.size:=by
    by_cases e:a<s.size
    ·exact e
    ·rw [show a=s.size by omega,piecesF_nil] at h;cases h
   rw [piecesF_cons s a hlt,List.cons_append] at h
   have hz:=ext_size s a ha
   have hn:=nextI_bd (s.extract a s.size) (by omega)
   obtain⟨hq,ht⟩:=List.cons.inj h
   obtain⟨i1,i2,_⟩:=pieces_mid s t _ b (by omega) hb ht
   have hqz:q.2.size=nextI (s.extract a s.size):=by rw [←hq];simp [ByteArray.size_extract];omega
   have hq1:q.1=a:=by rw [←hq]
   refine⟨by rw [List.map_cons,szs,hqz];omega,fun p hp=>?_,fun e=>by cases e⟩
   rcases List.mem_cons.1 hp with rfl | hp
   ·omega
   ·have:=i2 p hp;omega
theorem bord_ord {s:ByteArray} {a b k m:Nat} (ha:Bord s a k) (hb:Bord s b m) (h:k≤m):∃L,piecesF s s.size a=L++piecesF s s.size b∧L.length=m-k:=by
 obtain⟨a1,pre,a2,a3⟩:=ha
 obtain⟨b1,qre,b2,b3⟩:=hb
 have he:pre++piecesF s s.size a=qre++piecesF s s.size b:=a2.symm.trans b2
 refine⟨qre.drop k,?_,by rw [List.length_drop,b3]⟩
 have h1:=congrArg (List.drop k) he
 rw [List.drop_append_of_le_length (by omega),List.drop_eq_nil_of_le (by omega:pre.length≤k),List.nil_append,List.drop_append_of_le_length (by omega)] at h1
 exact h1
theorem bord_le {s:ByteArray} {a b k m:Nat} (ha:Bord s a k) (hb:Bord s b m) (h:k≤m):a≤b:=by
 obtain⟨L,h1,_⟩:=bord_ord ha hb h
 have:=(pieces_mid s L a b ha.1 hb.1 h1).1
 omega
theorem bord_lt {s:ByteArray} {a b k m:Nat} (ha:Bord s a k) (hb:Bord s b m) (h:a<b):k<m:=by
 by_cases e:k<m
 ·exact e
 ·have:=bord_le hb ha (by omega);omega
theorem bord_eq {s:ByteArray} {a k m:Nat} (ha:Bord s a k) (hb:Bord s a m):k=m:=by
 have key:∀{k m:Nat},Bord s a k→Bord s a m→k≤m→k=m:=by
  intro k m ha hb h
  obtain⟨L,h1,h2⟩:=bord_ord ha hb h
  have h3:L=[]:=by
   cases L with
   | nil=>rfl
   | cons q t =>
     have:=(pieces_mid s _ a a ha.1 hb.1 h1).2.1 q (by simp)
     omega
  rw [h3] at h2
  simp at h2
  omega
 rcases Nat.le_total k m with h | h
 ·exact key ha hb h
 ·exact (key hb ha h).symm
theorem bord_gap {s:ByteArray} {p c k m:Nat} (hp:Bord s p k) (hc:Bord s c m) (h:p<c):p+nextI (s.extract p s.size)≤c:=by
 have hlt:p<s.size:=by have:=hc.1;omega
 have:=bord_lt hp hc h
 exact bord_le (hp.next hlt) hc (by omega)
theorem bord_end (s:ByteArray):Bord s s.size (piecesI s).length:=⟨Nat.le_refl _,piecesI s,by rw [piecesF_nil,List.append_nil],rfl⟩
theorem clAtF_spec (s:ByteArray) (x:Nat) (hx:x≤s.size):∀(f a k:Nat),s.size≤a+f→Bord s a k→a≤x →
 ∃k1 k2,Bord s (clAtF x (piecesF s s.size a) s.size).1 k1∧Bord s (clAtF x (piecesF s s.size a) s.size).2 k2∧(clAtF x (piecesF s s.size a) s.size).1≤x∧x≤(clAtF x (piecesF s s.size a) s.size).2 ∧
   (x<s.size→x<(clAtF x (piecesF s s.size a) s.size).2∧(clAtF x (piecesF s s.size a) s.size).2=(clAtF x (piecesF s s.size a) s.size).1+nextI (s.extract (clAtF x (piecesF s s.size a) s.size).1 s.size)) ∧
   (x=s.size→(clAtF x (piecesF s s.size a) s.size).1=s.size∧(clAtF x (piecesF s s.size a) s.size).2=s.size)
 | 0,a,k,hf,hb,ha=>by
   have:a=s.size:=by have:=hb.1;omega
   subst this
   rw [piecesF_nil,clAtF]
   exact⟨_,_,bord_end s,bord_end s,ha,hx,fun h=>by omega,fun _=>⟨rfl,rfl⟩⟩
 | f+1,a,k,hf,hb,ha=>by
   by_cases hlt:a<s.size
   ·have hz:=ext_size s a (by omega)
    have hn:=nextI_bd (s.extract a s.size) (by omega)
    have hps:(s.extract a (a+nextI (s.extract a s.size))).size=nextI (s.extract a s.size):=by simp [ByteArray.size_extract];omega
    rw [piecesF_cons s a hlt,clAtF,hps]
    by_cases h:x<a+nextI (s.extract a s.size)
    ·rw [if_pos h]
     exact⟨_,_,hb,hb.next hlt,ha,by omega,fun _=>⟨h,rfl⟩,fun e=>by omega⟩
    ·rw [if_neg h]
     exact clAtF_spec s x hx f _ _ (by omega) (hb.next hlt) (by omega)
   ·have:a=s.size:=by have:=hb.1;omega
    subst this
    rw [piecesF_nil,clAtF]
    exact⟨_,_,bord_end s,bord_end s,ha,hx,fun h=>by omega,fun _=>⟨rfl,rfl⟩⟩
theorem clAt_spec (s:ByteArray) (x:Int) :
 ∃k1 k2,Bord s (clAt s x).1 k1∧Bord s (clAt s x).2 k2∧(clAt s x).1≤min x.toNat s.size∧min x.toNat s.size≤(clAt s x).2 ∧
   (min x.toNat s.size<s.size→min x.toNat s.size<(clAt s x).2∧(clAt s x).2=(clAt s x).1+nextI (s.extract (clAt s x).1 s.size))∧(min x.toNat s.size=s.size→(clAt s x).1=s.size∧(clAt s x).2=s.size) :=
 clAtF_spec s (min x.toNat s.size) (Nat.min_le_right _ _) s.size 0 0 (by omega) (Bord.zero s) (Nat.zero_le _)
theorem upB_spec (s:ByteArray) (x:Nat) (hx:x≤s.size):∃k,Bord s (upB s x) k∧x≤upB s x∧∀c m,Bord s c m→x≤c→upB s x≤c:=by
 obtain⟨k1,k2,h1,h2,h3,h4,h5,h6⟩:=clAt_spec s x
 have hm:min (x:Int).toNat s.size=x:=by omega
 rw [hm] at h3 h4 h5 h6
 unfold upB
 by_cases e:(clAt s (x:Int)).1=x
 ·rw [if_pos e]
  exact⟨k1,e▸h1,Nat.le_refl _,fun c m _ h=>h⟩
 ·rw [if_neg e]
  refine⟨k2,h2,h4,fun c m hc hxc=>?_⟩
  by_cases h:x<s.size
  ·rw [(h5 h).2]
   exact bord_gap h1 hc (by omega)
  ·have:=h6 (by omega)
   omega
theorem upB_mono (s:ByteArray) (x y:Nat) (h:x≤y) (hy:y≤s.size):upB s x≤upB s y:=by
 obtain⟨_,_,_,h3⟩:=upB_spec s x (by omega)
 obtain⟨k,h4,h5,_⟩:=upB_spec s y hy
 exact h3 _ _ h4 (by omega)
def inPs (s:ByteArray) (fr tt:Nat):List (Nat × ByteArray):=(piecesI s).filter (fun p=>decide (fr≤p.1)&&decide (p.1<tt))
theorem inPs_spec {s:ByteArray} {fr tt k m:Nat} (hf:Bord s fr k) (ht:Bord s tt m) (h:fr≤tt) :
 piecesF s s.size fr=inPs s fr tt++piecesF s s.size tt∧(inPs s fr tt).map (·.2)=(piecesI (s.extract fr tt)).map (·.2)∧fr+szs ((inPs s fr tt).map (·.2))=tt ∧
  (∀p∈inPs s fr tt,fr≤p.1∧p.1+p.2.size≤tt∧0<p.2.size)∧∃pre,piecesI s=pre++inPs s fr tt++piecesF s s.size tt∧pre.length=k∧∀p∈pre,p.1<fr:=by
 have hkm:k≤m:=by
  by_cases e:fr=tt
  ·subst e;exact Nat.le_of_eq (bord_eq hf ht)
  ·exact Nat.le_of_lt (bord_lt hf ht (by omega))
 obtain⟨L,hL,_⟩:=bord_ord hf ht hkm
 obtain⟨a1,a2,a3⟩:=pieces_mid s L fr tt hf.1 ht.1 hL
 obtain⟨hfz,pre,p1,p2⟩:=hf
 obtain⟨b1,b2,_⟩:=pieces_mid s pre 0 fr (Nat.zero_le _) hfz p1
 have hfil:inPs s fr tt=L:=by
  unfold inPs
  rw [p1,hL,List.filter_append,List.filter_append]
  have e1:pre.filter (fun p=>decide (fr≤p.1)&&decide (p.1<tt))=[]:=by
   rw [List.filter_eq_nil_iff]
   intro p hp
   have:=(b2 p hp).2.1
   simp;omega
  have e2:L.filter (fun p=>decide (fr≤p.1)&&decide (p.1<tt))=L:=by
   rw [List.filter_eq_self]
   intro p hp
   have:=a2 p hp
   simp;omega
  have e3:(piecesF s s.size tt).filter (fun p=>decide (fr≤p.1)&&decide (p.1<tt))=[]:=by
   rw [List.filter_eq_nil_iff]
   intro p hp
   have:=(pieces_mid s (piecesF s s.size tt) tt s.size ht.1 (Nat.le_refl _) (by rw [piecesF_nil,List.append_nil])).2.1 p hp
   simp;omega
  rw [e1,e2,e3]
  simp
 have hmap:(piecesF s s.size fr).map (·.2)=L.map (·.2)++(piecesF s s.size tt).map (·.2):=by rw [hL,List.map_append]
 obtain⟨c1,c2,c3,c4⟩:=cut_pieces s fr k ⟨hfz,pre,p1,p2⟩ _ _ hmap
 rw [a1] at c3
 rw [hfil]
 exact⟨hL,c3.symm,a1,fun p hp=>⟨(a2 p hp).1,(a2 p hp).2.2⟩,pre,by rw [p1,hL,List.append_assoc],p2,fun p hp=>(b2 p hp).2.1⟩
end
end Go.Proofs.YtlbclfmbejjneaaGreatDoor
