/- Part 3 (merged by a program): lemmas of no further condition than each states. -/
import Derived.Test.YtlmjbfncopbilaaGreatDoorK02
namespace Go.Proofs.YtlmjbfncopbilaaGreatDoor
set_option linter.unusedVariables false
set_option linter.unusedSimpArgs false
section
open Go.RowKit
def nats (l:List Nat):List Value:=l.map fun (p:Nat)=>Value.int .i64 (p:Int)
theorem nats_snoc (l:List Nat) (i:Nat):nats (l++[i])=nats l++[.int .i64 (i:Int)]:=by unfold nats;rw [List.map_append];rfl
theorem nats_len (l:List Nat):(nats l).length=l.length:=by unfold nats;simp
theorem nats_get (l:List Nat) (i:Nat) (h:i<l.length):(nats l)[i]? = some (.int .i64 ((l.getD i 0:Nat):Int)):=by
 unfold nats
 rw [List.getElem?_map,List.getD_eq_getElem?_getD,List.getElem?_eq_getElem h]
 rfl
def NestAt (w:World) (base ts ti:Nat) (v:Value) (out:List (List Nat)):Prop :=
 ∃ss:List Value,w.ownsRow base ts 1 v out.length ss ∧
   (∀k,k<out.length→w.ownsRow base ti 1 (ss.getD k undef) (out.getD k []).length (nats (out.getD k []))) ∧
   (∀k g,k<out.length→(ss.getD k undef).ownBlock=some g→v.ownBlock≠some g∧∀j,j<out.length→j≠k→(ss.getD j undef).ownBlock≠some g)
theorem NestAt.nil (w:World) (base ts ti:Nat):NestAt w base ts ti (.slice none 0 0) [] :=
 ⟨[],World.ownsRow_nil _ _ _ _,fun k hk=>absurd hk (by simp),fun k g hk=>absurd hk (by simp)⟩
theorem NestAt.keep {w w':World} {base ts ti:Nat} {v:Value} {out:List (List Nat)} (h:NestAt w base ts ti v out) (hb:Below w.heap.size w w'):NestAt w' base ts ti v out:=by
 obtain⟨ss,h1,h2,h3⟩:=h
 exact⟨ss,ownsRow_keep h1 hb,fun k hk=>ownsRow_keep (h2 k hk) hb,h3⟩
theorem ownsRow_ne {w:World} {base e size n:Nat} {v:Value} {xs:List Value} (h:w.ownsRow base e size v n xs) {w':World} {row:Option Nat} (hg:w.grownBy w' row) (hne:∀g,v.ownBlock=some g→row≠some g):w'.ownsRow base e size v n xs:=by
 refine h.kept hg ?_
 cases hv:v.ownBlock with
 | none=>exact .inl rfl
 | some g=>exact .inr fun e=>hne g hv e.symm
theorem NestAt.far {w w':World} {base ts ti:Nat} {v:Value} {out:List (List Nat)} (h:NestAt w base ts ti v out) {row:Option Nat} (hg:w.grownBy w' row) (hr:∀g,row=some g→g<base):NestAt w' base ts ti v out:=by
 obtain⟨ss,h1,h2,h3⟩:=h
 have key:∀g,base≤g→row≠some g:=fun g hb e=>by have:=hr g e;omega
 exact⟨ss,ownsRow_ne h1 hg fun g hv=>key g (h1.lt g hv).1,fun k hk=>ownsRow_ne (h2 k hk) hg fun g hv=>key g ((h2 k hk).lt g hv).1,h3⟩
theorem NestAt.shape {w:World} {base ts ti:Nat} {v:Value} {out:List (List Nat)} (h:NestAt w base ts ti v out):∃a cap,v=.slice a out.length cap∧out.length≤cap∧cap≤maxLen:=by
 obtain⟨ss,h1,_⟩:=h
 exact own_slice h1
theorem NestAt.grown {w w1 w':World} {base ts ti:Nat} {v v':Value} {out:List (List Nat)} {ss:List Value}
 (h2:∀k,k<out.length→w.ownsRow base ti 1 (ss.getD k undef) (out.getD k []).length (nats (out.getD k [])))
 (h3:∀k g,k<out.length→(ss.getD k undef).ownBlock=some g→v.ownBlock≠some g∧∀j,j<out.length→j≠k→(ss.getD j undef).ownBlock≠some g)
 (hl:ss.length=out.length) (hg:w.grownBy w' v.ownBlock) (hown:w'.ownsRow base ts 1 v' (out.length+1) (ss++[.slice none 0 0]))
 (hloc:v'.ownBlock=v.ownBlock∨∃H,v'.ownBlock=some H∧w.heap.size≤H):NestAt w' base ts ti v' (out++[[]]):=by
 have e1:∀k,k<out.length→(ss++[Value.slice none 0 0]).getD k undef=ss.getD k undef:=fun k hk=>by
  rw [List.getD_eq_getElem?_getD,List.getElem?_append_left (by omega),←List.getD_eq_getElem?_getD]
 have e2:∀k,k<out.length→(out++[[]]).getD k []=out.getD k []:=fun k hk=>by
  rw [List.getD_eq_getElem?_getD,List.getElem?_append_left (by omega),←List.getD_eq_getElem?_getD]
 have e3:(ss++[Value.slice none 0 0]).getD out.length undef=.slice none 0 0:=by
  rw [List.getD_eq_getElem?_getD,←hl,List.getElem?_append_right (Nat.le_refl _),Nat.sub_self];rfl
 have e4:(out++[[]]).getD out.length []=[]:=by
  rw [List.getD_eq_getElem?_getD,List.getElem?_append_right (Nat.le_refl _),Nat.sub_self];rfl
 have hlen:(out++[[]]).length=out.length+1:=by simp
 refine⟨ss++[.slice none 0 0],by rw [hlen];exact hown,fun k hk=>?_,fun k g hk hb=>?_⟩
 ·rw [hlen] at hk
  rcases Nat.lt_or_ge k out.length with h | h
  ·rw [e1 k h,e2 k h]
   exact ownsRow_ne (h2 k h) hg fun g hv=>(h3 k g h hv).1
  ·obtain rfl:k=out.length:=by omega
   rw [e3,e4]
   exact World.ownsRow_nil _ _ _ _
 ·rw [hlen] at hk
  rcases Nat.lt_or_ge k out.length with h | h
  ·rw [e1 k h] at hb
   obtain⟨n1,n2⟩:=h3 k g h hb
   have hlt:=((h2 k h).lt g hb).2
   refine⟨?_,fun j hj hne=>?_⟩
   ·rcases hloc with hloc | ⟨H,hH,hHs⟩
    ·rw [hloc];exact n1
    ·rw [hH];intro e;cases e;omega
   ·rw [hlen] at hj
    rcases Nat.lt_or_ge j out.length with h' | h'
    ·rw [e1 j h'];exact n2 j h' hne
    ·obtain rfl:j=out.length:=by omega
     rw [e3];simp [Value.ownBlock]
  ·obtain rfl:k=out.length:=by omega
   rw [e3] at hb;simp [Value.ownBlock] at hb
theorem NestAt.elem {w:World} {base ts ti:Nat} {v:Value} {out:List (List Nat)} (h:NestAt w base ts ti v out) (k:Nat) (hk:k<out.length) :
 ∃G cap s,v=.slice (some ⟨G,0,none⟩) out.length cap∧base≤G∧G<w.heap.size∧w.cell? ⟨G,k,none⟩=some s∧w.frozen? ⟨G,k,none⟩=false∧cap≤maxLen ∧
   w.ownsRow base ti 1 s (out.getD k []).length (nats (out.getD k []))∧s.ownBlock≠some G ∧
   ∀w' s' r,w'.ownsRow base ti 1 s' r.length (nats r)→w.grownBy w' s.ownBlock→(s'.ownBlock=s.ownBlock∨∃H,s'.ownBlock=some H∧w.heap.size≤H) →
     NestAt (w'.setCell ⟨G,k,none⟩ s') base ts ti v (out.set k r):=by
 obtain⟨ss,h1,h2,h3⟩:=h
 obtain⟨a,cap,rfl,hc1,hc2⟩:=own_slice h1
 obtain⟨G,rfl,hG1,hG2,hcells⟩:=own_cells h1 (by omega)
 have hsl:ss.length=out.length:=by have:=h1.1;omega
 have hck:=hcells k (by omega)
 have hs:ss[k]? = some (ss.getD k undef):=by rw [List.getD_eq_getElem?_getD,List.getElem?_eq_getElem (by omega)];rfl
 rw [hs] at hck
 have hfr:w.frozen? ⟨G,k,none⟩=false:=by
  rcases h1.2 with ⟨h',_⟩ | ⟨g,cap',cur,h',_,hg,_⟩
  ·cases h'
  ·cases h';simp [World.frozen?,hg]
 have hns:(ss.getD k undef).ownBlock≠some G:=fun e=>(h3 k G hk e).1 rfl
 refine⟨G,cap,ss.getD k undef,rfl,hG1,hG2,hck,hfr,hc2,h2 k hk,hns,fun w' s' r hr hg hloc=>?_⟩
 have h1':w'.ownsRow base ts 1 (.slice (some ⟨G,0,none⟩) out.length cap) out.length ss:=ownsRow_ne h1 hg fun g hv=>by
  simp only [Value.ownBlock,Option.some.injEq] at hv;subst hv;exact hns
 have hst:=World.ownsRow.stored h1' k s'
 have gd:∀j,j<out.length→(ss.set k s').getD j undef=if k=j then s' else ss.getD j undef:=fun j hj=>by
  rw [List.getD_eq_getElem?_getD,List.getElem?_set,List.getD_eq_getElem?_getD]
  by_cases e:k=j
  ·subst e;rw [if_pos rfl,if_pos (by omega),if_pos rfl];rfl
  ·rw [if_neg e,if_neg e]
 have go:∀j,j<out.length→(out.set k r).getD j []=if k=j then r else out.getD j []:=fun j hj=>by
  rw [List.getD_eq_getElem?_getD,List.getElem?_set,List.getD_eq_getElem?_getD]
  by_cases e:k=j
  ·subst e;rw [if_pos rfl,if_pos (by omega),if_pos rfl];rfl
  ·rw [if_neg e,if_neg e]
 have hsG:s'.ownBlock≠some G:=by
  rcases hloc with e | ⟨H,e,hH⟩
  ·rw [e];exact hns
  ·rw [e];intro e';cases e';omega
 refine⟨ss.set k s',by rw [List.length_set];exact hst.1,fun j hj=>?_,fun j g hj hb=>?_⟩
 ·rw [List.length_set] at hj
  rw [gd j hj,go j hj]
  by_cases e:k=j
  ·rw [if_pos e,if_pos e]
   exact ownsRow_ne hr hst.2 fun g hv e'=>hsG (hv.trans e'.symm)
  ·rw [if_neg e,if_neg e]
   refine ownsRow_ne (ownsRow_ne (h2 j hj) hg fun g hv e'=>?_) hst.2 fun g hv e'=>(h3 j g hj hv).1 e'
   exact (h3 k g hk e').2 j hj (fun e''=>e e''.symm) hv
 ·rw [List.length_set] at hj
  rw [gd j hj] at hb
  by_cases e:k=j
  ·subst e
   rw [if_pos rfl] at hb
   refine⟨fun e'=>hsG (hb.trans e'.symm),fun i hi hne=>?_⟩
   rw [List.length_set] at hi
   rw [gd i hi,if_neg (fun e=>hne e.symm)]
   rcases hloc with e' | ⟨H,e',hH⟩
   ·exact (h3 k g hk (e'.symm.trans hb)).2 i hi hne
   ·rw [e'] at hb;cases hb
    intro e''
    have:=((h2 i hi).lt g e'').2
    omega
  ·rw [if_neg e] at hb
   have h3':=h3 j g hj hb
   refine⟨h3'.1,fun i hi hne=>?_⟩
   rw [List.length_set] at hi
   rw [gd i hi]
   by_cases e':k=i
   ·rw [if_pos e']
    subst e'
    rcases hloc with e'' | ⟨H,e'',hH⟩
    ·rw [e''];exact h3'.2 k hk hne
    ·rw [e''];intro e3;cases e3
     have:=((h2 j hj).lt g hb).2
     omega
   ·rw [if_neg e'];exact h3'.2 i hi hne
end
section
open Go.RowKit Go.Maps
def gfind (goes:List (Nat × Nat)) (j:Nat):Option Nat:=(goes.find? (fun x=>x.1==j)).map (·.2)
structure MapIs (D:DataW Unit) (goes:List (Nat × Nat)):Prop where
 isMap:IsMap D
 none_:∀j:Nat,gfind goes j=none→Maps.has D (.int .i64 j)=false
 some_:∀j k:Nat,gfind goes j=some k→Maps.has D (.int .i64 j)=true∧D.atKey (.int .i64 j) (.lit (.int .i64 0))=.lit (.int .i64 k)
theorem MapIs.nil:MapIs (.map []) []:=⟨isMap_empty,fun j h=>rfl,fun j k h=>by cases h⟩
theorem gfind_cons (goes:List (Nat × Nat)) (j k i:Nat):gfind ((j,k)::goes) i=if j=i then some k else gfind goes i:=by
 unfold gfind
 rw [List.find?_cons]
 by_cases h:j=i
 ·have:(j==i)=true:=by simpa using h
  simp only [this,if_pos h,Option.map_some]
 ·have:(j==i)=false:=by simpa using h
  simp only [this,if_neg h]
theorem MapIs.put {D:DataW Unit} {goes:List (Nat × Nat)} (h:MapIs D goes) (j k:Nat):MapIs (D.put (.int .i64 j) (.lit (.int .i64 k))) ((j,k)::goes):=by
 have hk:WideAt.IsKeyLit (.int .i64 (j:Int)):=trivial
 refine⟨h.isMap.put _ _,fun i hi=>?_,fun i q hi=>?_⟩
 ·rw [gfind_cons] at hi
  by_cases e:j=i
  ·rw [if_pos e] at hi;cases hi
  ·rw [if_neg e] at hi
   rw [has_put_other (fun e'=>e (by cases e';rfl))]
   exact h.none_ i hi
 ·rw [gfind_cons] at hi
  by_cases e:j=i
  ·rw [if_pos e] at hi
   cases hi
   subst e
   exact⟨has_put_same h.isMap hk _,atKey_put_same h.isMap hk _ _⟩
  ·rw [if_neg e] at hi
   have hne:(Lit.int .i64 (i:Int))≠.int .i64 (j:Int):=fun e'=>by
    injection e' with _ e'
    omega
   rw [has_put_other hne,atKey_put_other hne]
   exact h.some_ i q hi
end
section
open Go.RowKit
theorem flat_len {α:Type} (l:List α) (f:α→List Value) (k:Nat) (hf:∀x,(f x).length=k):(l.flatMap f).length=l.length*k:=by
 induction l with
 | nil=>simp
 | cons x l ih=>rw [List.flatMap_cons,List.length_append,hf,ih,List.length_cons,Nat.add_mul];omega
theorem flat_get {α:Type} (l:List α) (d:α) (f:α→List Value) (k:Nat) (hf:∀x,(f x).length=k) (i j:Nat) (hi:i<l.length) (hj:j<k):(l.flatMap f)[i*k+j]? = (f (l.getD i d))[j]?:=by
 induction l generalizing i with
 | nil=>simp at hi
 | cons x l ih =>
   rw [List.flatMap_cons]
   cases i with
   | zero=>rw [Nat.zero_mul,Nat.zero_add,List.getElem?_append_left (by rw [hf];exact hj)];rfl
   | succ i =>
     have:=ih i (by simpa using hi)
     rw [List.getElem?_append_right (by rw [hf,Nat.add_mul];omega),hf,show (i+1)*k+j-k=i*k+j by rw [Nat.add_mul];omega]
     exact this
theorem flat_take {α:Type} (l:List α) (f:α→List Value) (k:Nat) (hf:∀x,(f x).length=k) (m:Nat):(l.take m).flatMap f=(l.flatMap f).take (m*k):=by
 induction l generalizing m with
 | nil=>simp
 | cons x l ih =>
   cases m with
   | zero=>simp
   | succ m =>
     have h2:(f x).length=k:=hf x
     rw [List.take_succ_cons,List.flatMap_cons,List.flatMap_cons,ih,List.take_append,h2,List.take_of_length_le (l:=f x) (by rw [h2,Nat.add_mul];omega),show (m+1)*k-k=m*k by rw [Nat.add_mul];omega]
structure Keep2 (p R:Nat) (w w':World):Prop where
 os:w'.os=w.os
 tape:w'.tape=w.tape
 output:w'.output=w.output
 size:w.heap.size≤w'.heap.size
 block:∀k,k<w.heap.size→k≠p→k≠R→w'.heap[k]? = w.heap[k]?
theorem Keep2.refl (p R:Nat) (w:World):Keep2 p R w w:=⟨rfl,rfl,rfl,Nat.le_refl _,fun _ _ _ _=>rfl⟩
theorem Keep2.trans {p R R':Nat} {w w' w'':World} (h:Keep2 p R w w') (k:Keep2 p R' w' w'') (hR:R'=R∨w.heap.size≤R'):Keep2 p R w w'':=by
 refine⟨k.os.trans h.os,k.tape.trans h.tape,k.output.trans h.output,Nat.le_trans h.size k.size,fun q hq h1 h2=>?_⟩
 have:=h.size
 exact (k.block q (by omega) h1 (by rcases hR with e | e <;> omega)).trans (h.block q hq h1 h2)
theorem Keep2.set {p R:Nat} {w w':World} (h:Keep2 p R w w') (i:Nat) (v:Value):Keep2 p R w (w'.setCell ⟨p,i,none⟩ v) :=
 ⟨h.os,h.tape,h.output,by simpa [World.setCell] using h.size,fun q hq h1 h2=>(heap_setCell_other w' ⟨p,i,none⟩ q v h1).trans (h.block q hq h1 h2)⟩
theorem Keep2.alloc {p R:Nat} {w w':World} (h:Keep2 p R w w') (o:Obj):Keep2 p R w (w'.alloc o) :=
 ⟨h.os,h.tape,h.output,by have:=h.size;simp;omega,fun q hq h1 h2=>(Below.heap_alloc w' o q (by have:=h.size;omega)).trans (h.block q hq h1 h2)⟩
theorem Keep2.drewN {p R:Nat} {w w':World} (h:Keep2 p R w w') (n:Nat):Keep2 p R w (w'.drewN n):=⟨h.os,h.tape,h.output,h.size,h.block⟩
theorem Keep2.grown {p R:Nat} {w w' w'':World} (h:Keep2 p R w w') {row:Option Nat} (hg:w'.grownBy w'' row) (hr:∀k,row=some k→k=p∨k=R∨w.heap.size≤k):Keep2 p R w w'':=by
 refine⟨hg.os.trans h.os,hg.tape.trans h.tape,hg.output.trans h.output,Nat.le_trans h.size hg.size,fun q hq h1 h2=>?_⟩
 have:=h.size
 exact (hg.block q (by omega) (fun e=>by rcases hr q e.symm with e | e | e <;> omega)).trans (h.block q hq h1 h2)
theorem Keep2.below {p R B:Nat} {w w':World} (h:Keep2 p R w w') (hp:B≤p) (hR:B≤R) (hB:B≤w.heap.size):Below B w w' :=
 ⟨h.os,h.tape,h.output,h.size,fun q hq=>h.block q (by omega) (by omega) (by omega)⟩
theorem Keep2.of {p R:Nat} {w w':World} (h:Below w.heap.size w w'):Keep2 p R w w':=⟨h.os,h.tape,h.output,h.size,fun q hq _ _=>h.block q hq⟩
theorem Keep2.own {p R:Nat} {w w':World} (h:Keep2 p R w w') {base e size n:Nat} {v:Value} {xs:List Value} (ho:w.ownsRow base e size v n xs) (hp:∀g,v.ownBlock=some g→g≠p∧g≠R):w'.ownsRow base e size v n xs:=by
 refine⟨ho.1,?_⟩
 rcases ho.2 with hn | ⟨g,cap,cur,rfl,hb,hg,r⟩
 ·exact .inl hn
 ·have:=hp g rfl
  exact .inr ⟨g,cap,cur,rfl,hb,(h.block g (Array.getElem?_eq_some_iff.1 hg).1 this.1 this.2).trans hg,r⟩
def scell (s:LSt):List Value:=[.int .u8 s.level,.int .i8 s.over,.bool s.iso]
def PileAt (w:World) (base p R:Nat) (P:LPile):Prop :=
 ∃N cap,w.heap[p]? = some (.cells #[.slice (some ⟨R,0,none⟩) P.states.length cap,.int .i64 P.opn,.int .i64 P.deep,.int .i64 P.emb] 259 (0,0))∧RowAt w R 255 N (P.states.flatMap scell) ∧
   base≤p∧base≤R∧R≠p∧P.states.length≤cap∧cap≤maxLen∧cap*3≤N
theorem pile_cells {w:World} {p:Nat} {a b c d:Value} (h:w.heap[p]? = some (.cells #[a,b,c,d] 259 (0,0))) :
 w.cell? ⟨p,0,none⟩=some a∧w.cell? ⟨p,1,none⟩=some b∧w.cell? ⟨p,2,none⟩=some c∧w.cell? ⟨p,3,none⟩=some d ∧
  (∀i,w.frozen? ⟨p,i,none⟩=false)∧p<w.heap.size:=by
 refine⟨by simp [World.cell?,h],by simp [World.cell?,h],by simp [World.cell?,h],by simp [World.cell?,h],fun i=>by simp [World.frozen?,h],(Array.getElem?_eq_some_iff.1 h).1⟩
theorem pile_set0 {w:World} {p:Nat} {a b c d v:Value} (h:w.heap[p]? = some (.cells #[a,b,c,d] 259 (0,0))):(w.setCell ⟨p,0,none⟩ v).heap[p]? = some (.cells #[v,b,c,d] 259 (0,0)):=by
 simp [World.setCell,Array.getElem?_modify,h]
theorem pile_set1 {w:World} {p:Nat} {a b c d v:Value} (h:w.heap[p]? = some (.cells #[a,b,c,d] 259 (0,0))):(w.setCell ⟨p,1,none⟩ v).heap[p]? = some (.cells #[a,v,c,d] 259 (0,0)):=by
 simp [World.setCell,Array.getElem?_modify,h]
theorem pile_set2 {w:World} {p:Nat} {a b c d v:Value} (h:w.heap[p]? = some (.cells #[a,b,c,d] 259 (0,0))):(w.setCell ⟨p,2,none⟩ v).heap[p]? = some (.cells #[a,b,v,d] 259 (0,0)):=by
 simp [World.setCell,Array.getElem?_modify,h]
theorem pile_set3 {w:World} {p:Nat} {a b c d v:Value} (h:w.heap[p]? = some (.cells #[a,b,c,d] 259 (0,0))):(w.setCell ⟨p,3,none⟩ v).heap[p]? = some (.cells #[a,b,c,v] 259 (0,0)):=by
 simp [World.setCell,Array.getElem?_modify,h]
theorem row_set_other {w:World} {p R t N i:Nat} {xs:List Value} {v:Value} (h:RowAt w R t N xs) (hne:R≠p):RowAt (w.setCell ⟨p,i,none⟩ v) R t N xs:=h.kept (heap_setCell_other w ⟨p,i,none⟩ R v hne)
theorem pile_top {w:World} {R N L:Nat} {P:LPile} (h:RowAt w R 255 N (P.states.flatMap scell)) (hL:P.states.length=L+1) :
 w.cell? ⟨R,L*3,none⟩=some (.int .u8 P.top.level)∧w.cell? ⟨R,L*3+1,none⟩=some (.int .i8 P.top.over)∧w.cell? ⟨R,L*3+2,none⟩=some (.bool P.top.iso):=by
 have ht:P.top=P.states.getD L ⟨0,-1,false⟩:=by rw [P.top_at (by omega),LPile.last,hL,Nat.add_sub_cancel]
 have g:=fun j (hj:j<3)=>flat_get P.states ⟨0,-1,false⟩ scell 3 (fun _=>rfl) L j (by omega) hj
 rw [ht]
 exact⟨h.cell (L*3) _ (g 0 (by omega)),h.cell (L*3+1) _ (g 1 (by omega)),h.cell (L*3+2) _ (g 2 (by omega))⟩
theorem PileAt.keep {w w':World} {base p R:Nat} {P:LPile} (h:PileAt w base p R P) (hb:Below w.heap.size w w'):PileAt w' base p R P:=by
 obtain⟨N,cap,h1,h2,r⟩:=h
 exact⟨N,cap,(hb.block p (Array.getElem?_eq_some_iff.1 h1).1).trans h1,h2.kept (hb.block R h2.lt),r⟩
theorem PileAt.lt {w:World} {base p R:Nat} {P:LPile} (h:PileAt w base p R P):base≤p∧base≤R∧p<w.heap.size∧R<w.heap.size∧R≠p:=by
 obtain⟨N,cap,h1,h2,h3,h4,h5,_⟩:=h
 exact⟨h3,h4,(Array.getElem?_eq_some_iff.1 h1).1,h2.lt,h5⟩
theorem wpList_append_head {P:Program} (w:World) {ops:Array Oper} {rest:List Oper} {o:Oper} {a:Act} {Q:Exit→Act→World→Prop}
 (hg:o.guard=none) (s x:Operand) (t:TypeId) (hop:o.op=Op.call { callee:=Callee.builtin Builtin.append,args:=#[s,x],argTypes:=#[t,t] })
 (e:TypeId) (i:TypeInfo) (z:Value) (size bytes:Nat) (ht:P.underlying t=some (.slice e)) (hi:P.info? e=some i) (hz:i.zero=some z) (hsz:i.size=size) (hby:i.bytes=bytes) (hzs:z.cells.size=size) (hpos:0<size)
 (R N k cap:Nat) (xs:List Value) (hs:a.eval s=.slice (some ⟨R,0,none⟩) k cap) (hR:RowAt w R e N xs) (hxl:xs.length=k*size) (hN:cap*size≤N) (hcm:cap≤maxLen)
 (ad:Addr) (m c:Nat) (news:List Value) (hx:a.eval x=.slice (some ad) m c) (hn:news.length=m*size)
 (hc:∀j u,news[j]? = some u→w.cell? (ad.add j)=some u) (h1c:∀u∈news,u.oneCell'=true) (hm:0<m) (b1:k+m≤maxLen) (b2:(k+m)*bytes≤140737488355328)
 (hK:∀w' R' N' cap',RowAt w' R' e N' (xs++news)→k+m≤cap'→cap'≤maxLen→cap'*size≤N'→(R'=R∨w.heap.size≤R')→w.grownBy w' (some R)→wpList P ops Q rest (a.put o.dst (.slice (some ⟨R',0,none⟩) (k+m) cap')) w') :
 wpList P ops Q (o::rest) a w:=by
 by_cases hroom:k+m≤cap
 ·exact wpList_append_row w hg s x t hop e i size ht hi hsz R e N k cap xs hs hR hxl ad m c news hx hn hc h1c hroom (Nat.le_trans (Nat.mul_le_mul_right _ hroom) hN)
   fun w' h1 h2=>hK w' R N cap h1 hroom hcm hN (.inl rfl) h2
 ·refine wpList_plain hg fun K hK'=>?_
  obtain⟨v',w',hrun,r1,r2⟩:=run_append_arg_grows (P:=P) w t o.type e i z size bytes ht hi hz hsz hby hzs hpos ⟨R,0,none⟩ k cap xs hxl (fun j u hj=>by rw [Addr.add_lit,Nat.zero_add];exact hR.cell j u hj) ad m c news hn hc (by omega) b1 b2
  rcases r1.2 with ⟨_,h0⟩ | ⟨g,cap',cur,rfl,hb,hgg,h3,h4,h5,h6⟩
  ·omega
  ·unfold Oper.wp
   simp [execOp,hop,resolve,invoke,builtin,hs,hx,hrun,Result.andThen]
   refine hK' _ _ (hK w' g cur.size cap' ⟨cur,hgg,rfl,?_,?_⟩ h3 h4 (Nat.le_of_eq h5.symm) (.inr hb) ⟨r2.os,r2.tape,r2.output,r2.size,fun q hq _=>r2.block q hq (by simp)⟩)
   ·rw [r1.1];exact h6
   ·rw [r1.1,h5];exact Nat.mul_le_mul_right _ h3
end
section
open Go.RowKit
def FindPost (n:Nat) (F I:List Int) (r:Int) (w:World) (e:Ending) (w':World):Prop :=
 ∃low,low<n∧(low=0∨ith F low≤r)∧(low+1=n∨r<ith F (low+1)) ∧
   e=.returned (.tuple #[.int .u8 (ith I low),.int .i32 (if low+1<n then wrap32 (ith F (low+1)-1) else 1114111)])∧∃q,w'=w.drewN q
def badB (r:Int):Bool:=decide (r<0)||decide (1114111<r)||(decide (55296≤r)&&decide (r≤57343))
theorem known_yes {r:Int} (h:badB r=true):known r=65533:=by
 simp [badB] at h;unfold known;rw [if_pos (by omega)]
theorem known_no {r:Int} (h:badB r=false):known r=r:=by
 simp [badB] at h;unfold known;rw [if_neg (by omega)]
set_option maxHeartbeats 400000 in
theorem find_any (b n cap:Nat) (F I:List Int) (r:Int) (w:World) (hn:1≤n) (hm:n≤100000)
 (hF:∀i,i<n→w.cell? ⟨b,i*2,none⟩=some (.int .i32 (ith F i))) (hI:∀i,i<n→w.cell? ⟨b,i*2+1,none⟩=some (.int .u8 (ith I i))) :
 Calls Tryz.prog 180 #[.slice (some ⟨b,0,none⟩) n cap,.int .i32 r] w (FindPost n F I (known r) w):=by
 go_enter Tryz.func180,Tryz.ntmps180
 go_upto_region 1 with (fail)
 go_cut [22] (fun s22 wx=>s22=.bool (badB r)∧wx=w)
 case first =>
  by_cases h1:r<0
  ·go_wp2_with (fail)
   go_meet
   exact⟨by simp [badB,h1],rfl⟩
  ·by_cases h2:1114111<r
   ·go_wp2_with (fail)
    go_meet
    exact⟨by simp [badB,h2],rfl⟩
   ·by_cases h3:55296≤r
    ·go_wp2_with (fail)
     go_meet
     exact⟨by simp [badB,h3];omega,rfl⟩
    ·go_wp2_with (fail)
     go_meet
     exact⟨by unfold badB;simp;omega,rfl⟩
 case rest =>
  obtain⟨rfl,rfl⟩:=hcut
  go_upto_if 22 with (fail)
  go_cut [1] (fun s1 wx=>s1=.int .i32 (known r)∧wx=wc)
  case first =>
   cases hb:badB r
   ·have:=known_no hb
    go_wp2_with (fail)
    go_meet
    exact⟨by rw [this],rfl⟩
   ·have:=known_yes hb
    go_wp2_with (fail)
    go_meet
    exact⟨by rw [this],rfl⟩
  case rest =>
   obtain⟨rfl,rfl⟩:=hcut
   go_wp2_with (fail)
   have hkb:=known_bd r
   generalize known r=q at *
   go_loop [6,7] (fun l h=>∃lo hi:Nat,lo<hi∧hi≤n∧l=.int .i64 lo∧h=.int .i64 hi∧(lo=0∨ith F lo≤q)∧(hi=n∨q<ith F hi)) (fun l h=>(intOf h-intOf l).toNat)
   case atStart=>exact⟨0,n,by omega,by omega,rfl,rfl,.inl rfl,.inl rfl⟩
   case round =>
    obtain⟨lo,hi,hlt,hhi,rfl,rfl,hlo,hh⟩:=hrel
    by_cases hgo:lo+1<hi
    ·have hc:=hF ((lo+hi) / 2) (by omega)
     by_cases hcmp:q<ith F ((lo+hi) / 2)
     ·go_wp2
      go_round
      case rel=>exact⟨lo,(lo+hi) / 2,by omega,by omega,rfl,by go_num,hlo,.inr hcmp⟩
      case measure=>simp [intOf];omega
     ·go_wp2
      go_round
      case rel=>exact⟨(lo+hi) / 2,hi,by omega,by omega,by go_num,rfl,.inr (by omega),hh⟩
      case measure=>simp [intOf];omega
    ·have hI0:=hI lo (by omega)
     obtain rfl:hi=lo+1:=by omega
     by_cases hlast:lo+1<n
     ·have hF1:=hF (lo+1) hlast
      have g1:(0:Int)≤lo:=by omega
      have g2:(lo:Int)<n:=by omega
      have g3:(0:Int)≤(lo:Int)+1:=by omega
      have g4:(lo:Int)+1<n:=by omega
      go_wp2
      go_quiet (fail)
      go_wp2
      go_ret2
      exact⟨lo,by omega,hlo,hh,ret_ii rfl (by rw [if_pos hlast]),⟨_,rfl⟩⟩
     ·go_wp2
      go_ret2
      exact⟨lo,by omega,hlo,hh,ret_ii rfl (by rw [if_neg hlast]),⟨0,rfl⟩⟩
end
section
open Go.RowKit Go.Great
section
variable {P:Program} {ops:Array Oper} {rest:List Oper} {o:Oper} {a:Act} {w:World} {Q:Exit→Act→World→Prop}
def cells2 (x:Int × Int):List Value:=[.int .i32 x.1,.int .u8 x.2]
def stOp (t:TypeId) (pos:String) (d:Nat) (x:Int × Int):Oper :=
 {dst:=some d,op:=.build t #[(0,.const (.int .i32 x.1)),(1,.const (.int .u8 x.2))],type:=t,pos:=pos,after:=#[],guard:=none }
def stOps (t:TypeId) (pos:String):Nat→List (Int × Int)→List Oper
 | _,[]=>[]
 | d,x::xs=>stOp t pos d x::stOps t pos (d+1) xs
theorem wpList_sts (t:TypeId) (pos:String) (hb:∀x y:Int,P.built t [(0,.int .i32 x),(1,.int .u8 y)]=some #[.int .i32 x,.int .u8 y]) :
 ∀(xs:List (Int × Int)) (d:Nat) (a:Act),d+xs.length≤a.tmps.size →
   (∀a':Act,a'.tmps.size=a.tmps.size→a'.defers=a.defers→(∀i (h:i<xs.length),a'.eval (.tmp (d+i))=.agg (cells2 xs[i]).toArray) →
     (∀j,j<d→a'.eval (.tmp j)=a.eval (.tmp j))→wpList P ops Q rest a' w) →
   wpList P ops Q (stOps t pos d xs++rest) a w
 | [],d,a,_,h=>h a rfl rfl (fun i hi=>absurd hi (by simp)) (fun _ _=>rfl)
 | x::xs,d,a,hd,h=>by
   have hlt:d<a.tmps.size:=by simp at hd;omega
   show wpList P ops Q (stOp t pos d x::(stOps t pos (d+1) xs++rest)) a w
   refine wpList_buildTo rfl t _ rfl (some d) rfl (cells2 x).toArray (by simpa [Act.eval,cells2] using hb x.1 x.2) ?_
   refine wpList_sts t pos hb xs (d+1) _ (by rw [Act.size_put];simp at hd;omega) fun a' hs hdf hev hlow=>?_
   refine h a' (hs.trans (Act.size_put _ _ _)) (hdf.trans (Act.defers_put' _ _ _)) (fun i hi=>?_) (fun j hj=>?_)
   ·cases i with
    | zero=>rw [Nat.add_zero,hlow d (by omega),Act.eval_put_same _ _ _ hlt];rfl
    | succ i =>
      have:=hev i (by simpa using hi)
      rw [show d+(i+1)=d+1+i by omega,this]
      rfl
   ·rw [hlow j (by omega),Act.eval_put_ne _ _ _ _ (by omega)]
def tcells (T:List (Int × Int)):List Value:=T.flatMap cells2
theorem tcells_length (T:List (Int × Int)):(tcells T).length=T.length*2:=by
 induction T with
 | nil=>rfl
 | cons x T ih=>simp only [tcells,List.flatMap_cons,List.length_append] at *;rw [ih];simp [cells2];omega
theorem tcells_get (T:List (Int × Int)):∀i,i<T.length→(tcells T)[i*2]? = some (.int .i32 (T.getD i (0,0)).1)∧(tcells T)[i*2+1]? = some (.int .u8 (T.getD i (0,0)).2):=by
 induction T with
 | nil=>intro i h;simp at h
 | cons x T ih =>
   intro i h
   cases i with
   | zero=>exact⟨rfl,rfl⟩
   | succ i =>
     have:=ih i (by simpa using h)
     simp only [tcells,List.flatMap_cons,cells2,List.cons_append,List.nil_append] at this ⊢
     rw [show (i+1)*2=i*2+1+1 by omega]
     exact this
theorem tcells_one (T:List (Int × Int)):(tcells T).toArray.all (·.oneCell')=true:=by
 rw [Array.all_eq_true_iff_forall_mem]
 intro v hv
 simp only [tcells,List.mem_toArray,List.mem_flatMap] at hv
 obtain⟨x,_,hx⟩:=hv
 simp only [cells2,List.mem_cons,List.not_mem_nil,or_false] at hx
 rcases hx with rfl | rfl <;> rfl
theorem wpList_buildArr2 (hg:o.guard=none) (t e:TypeId) (n:Nat) (parts:Array (Nat × Operand)) (T:List (Int × Int)) (ho:o.op=.build t parts) (d:Nat) (dst:Option Tmp) (hdst:o.dst=dst)
 (hu:P.underlying t=some (.array n e)) (hsz:(P.info? e).map (·.size)=some 2) (hz:((P.info? t).bind (·.zero)).map (·.cells.size)=some (T.length*2))
 (hparts:parts.toList=(List.range T.length).map fun i=>(i,Operand.tmp (d+i)))
 (hev:∀i (h:i<T.length),a.eval (.tmp (d+i))=.agg (cells2 T[i]).toArray)
 (h:wpList P ops Q rest (a.put dst (.agg (tcells T).toArray)) w):wpList P ops Q (o::rest) a w:=by
 refine wpList_buildTo hg t parts ho dst hdst (tcells T).toArray ?_ h
 cases hie:P.info? e with
 | none=>simp [hie] at hsz
 | some ie =>
   cases hit:P.info? t with
   | none=>simp [hit] at hz
   | some it =>
     cases hzz:it.zero with
     | none=>simp [hit,hzz] at hz
     | some z =>
       simp only [hie,hit,hzz,Option.map_some,Option.some.injEq,Option.bind_some] at hsz hz
       unfold Program.built
       simp only [hit,hu,hzz,hie]
       have e1:(parts.map fun (i,x)=>(i,a.eval x)).toList=((T.map fun x=>Value.agg (cells2 x).toArray).zipIdx 0).map fun x=>(x.2,x.1):=by
        rw [Array.toList_map,hparts,List.map_map]
        apply List.ext_getElem
        ·simp
        ·intro i h1 h2
         have hi:i<T.length:=by simpa using h1
         simp only [List.getElem_map,List.getElem_range,Function.comp,List.getElem_zipIdx,Nat.zero_add]
         rw [hev i hi]
       rw [e1,hsz]
       have:=fill_whole (s:=2) (by omega) (T.map fun x=>Value.agg (cells2 x).toArray) z.cells
        (fun v hv=>by obtain⟨x,_,rfl⟩:=List.mem_map.1 hv;rfl) (by simp [hz])
       rw [this]
       congr 2
       simp [tcells,List.flatMap_map,Value.cells]
theorem wpList_mv (hg:o.guard=none) (dst:Option Tmp) (hdst:o.dst=dst) (x:Operand) (ho:o.op=.move x∨o.op=.assign x)
 (h:wpList P ops Q rest (a.put dst (a.eval x)) w):wpList P ops Q (o::rest) a w:=by
 refine wpList_runTo hg dst hdst _ w ?_ h
 rcases ho with ho | ho <;> simp [execOp,ho]
theorem wpList_ext (hg:o.guard=none) (dst:Option Tmp) (hdst:o.dst=dst) (x:Operand) (i:Nat) (ho:o.op=.extract x i) (vs:Array Value) (v:Value)
 (hx:a.eval x=.tuple vs) (hv:vs[i]? = some v)
 (h:wpList P ops Q rest (a.put dst v) w):wpList P ops Q (o::rest) a w:=by
 refine wpList_runTo hg dst hdst v w ?_ h
 simp [execOp,ho,hx,Instr.extract,hv]
theorem wpList_sliceArr (hg:o.guard=none) (dst:Option Tmp) (hdst:o.dst=dst) (t e n:Nat) (x:Operand) (ho:o.op=.slice t x none none none) (g:Nat)
 (hu:P.underlying t=some (.array n e)) (hi:(P.info? e).isSome=true) (hx:a.eval x=.pointer (some ⟨g,0,none⟩))
 (h:wpList P ops Q rest (a.put dst (.slice (some ⟨g,0,none⟩) n n)) w):wpList P ops Q (o::rest) a w:=by
 obtain⟨ie,hie⟩:=Option.isSome_iff_exists.1 hi
 refine wpList_runTo hg dst hdst _ w ?_ h
 simp [execOp,ho,hx,Instr.sliceAt,run_underlying hu,Instr.sureAddr,Instr.sliceBounds,sizeOf,typeInfo,hie]
 intro _;rfl
theorem wpList_allocZ (hg:o.guard=none) (dst:Option Tmp) (hdst:o.dst=dst) (t:TypeId) (ho:o.op=.alloc t) (N:Nat) (hN:w.heap.size=N) (z:Value) (hz:(P.info? t).bind (·.zero)=some z)
 (h:wpList P ops Q rest (a.put dst (.pointer (some ⟨N,0,none⟩))) (w.alloc (.cells z.cells t))):wpList P ops Q (o::rest) a w:=by
 subst hN
 refine wpList_runTo hg dst hdst _ _ ?_ h
 cases hi:P.info? t with
 | none=>simp [hi] at hz
 | some i =>
   simp only [hi,Option.bind_some] at hz
   simp [execOp,ho,Instr.alloc,zeroValue,typeInfo,hi,hz,newVar,newRow]
theorem wpList_call2 (hg:o.guard=none) (dst:Option Tmp) (hdst:o.dst=dst) (f:FuncId) (x y:Operand) (hexec:execOp a.eval o=callFunc f #[a.eval x,a.eval y])
 (hcall:∀(args:Array Value) (w:World),(callFunc f args).run P w=.ok (.enter f args) w) {R:Ending→World→Prop} (hc:Calls P f #[a.eval x,a.eval y] w R)
 (h:∀e w',R e w'→∃v,e=.returned v∧wpList P ops Q rest (a.put dst v) w'):wpList P ops Q (o::rest) a w:=by
 subst hdst
 refine wpList_plain hg fun K hK=>?_
 unfold Oper.wp
 rw [hexec,hcall,Oper.upon_enter]
 refine hc.mono fun e w' hR=>?_
 obtain⟨v,rfl,hw⟩:=h e w' hR
 exact hK _ _ hw
def regionsOf:Code→List (Array Oper)
 | .region _ ops _=>[ops]
 | .seq x y=>regionsOf x++regionsOf y
 | .scope x=>regionsOf x
 | .block _ x=>regionsOf x
 | .loop x=>regionsOf x
 | .cond _ x y=>regionsOf x++regionsOf y
 | _=>[]
def posOf (f:Func):String:=(((regionsOf (f.body.getD .skip)).getD 1 #[]).getD 0 default).pos
theorem wp_frame0 {c:Code} (n:Nat) (v:Value) (hs:a.tmps.size=n) (hd:a.defers=[]) (h0:a.eval (.tmp 0)=v)
 (h:∀a':Act,a'.tmps.size=n→a'.defers=[]→a'.eval (.tmp 0)=v→c.wp P Q a' w):c.wp P Q a w:=h a hs hd h0
end
end
end Go.Proofs.YtlmjbfncopbilaaGreatDoor
