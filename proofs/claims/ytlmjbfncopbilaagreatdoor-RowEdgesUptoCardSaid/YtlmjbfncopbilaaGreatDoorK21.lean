/- Part 21 (merged by a program): lemmas of no further condition than each states. -/
import Derived.Test.YtlmjbfncopbilaaGreatDoorK20
namespace Go.Proofs.YtlmjbfncopbilaaGreatDoor
set_option linter.unusedVariables false
set_option linter.unusedSimpArgs false
section
open Go.RowKit
theorem insP_perm (p:Nat × Nat):∀l:List (Nat × Nat),(insP p l).Perm (p::l)
 | []=>List.Perm.refl _
 | q::t=>by
   rw [insP]
   split
   ·exact List.Perm.refl _
   ·exact ((insP_perm p t).cons q).trans (List.Perm.swap p q t)
theorem insP_sorted (p:Nat × Nat):∀l:List (Nat × Nat),l.Pairwise (fun a b=>a.1≤b.1)→(insP p l).Pairwise (fun a b=>a.1≤b.1)
 | [],_=>List.pairwise_singleton _ _
 | q::t,h=>by
   rw [insP]
   rw [List.pairwise_cons] at h
   split
   ·next hlt =>
    refine List.pairwise_cons.2 ⟨fun x hx=>?_,List.pairwise_cons.2 h⟩
    rw [List.mem_cons] at hx
    rcases hx with rfl | hx
    ·omega
    ·have:=h.1 x hx;omega
   ·next hge =>
    refine List.pairwise_cons.2 ⟨fun x hx=>?_,insP_sorted p t h.2⟩
    have:=(insP_perm p t).mem_iff.1 hx
    rw [List.mem_cons] at this
    rcases this with rfl | hx
    ·omega
    ·exact h.1 x hx
theorem foldl_perm:∀(l s:List (Nat × Nat)),(l.foldl (fun s p=>insP p s) s).Perm (l++s)
 | [],s=>List.Perm.refl _
 | p::l,s=>by
   rw [List.foldl_cons]
   refine (foldl_perm l _).trans ?_
   rw [List.cons_append]
   exact (List.Perm.append_left l (insP_perm p s)).trans List.perm_middle
theorem foldl_sorted:∀(l s:List (Nat × Nat)),s.Pairwise (fun a b=>a.1≤b.1)→(l.foldl (fun s p=>insP p s) s).Pairwise (fun a b=>a.1≤b.1)
 | [],s,h=>h
 | p::l,s,h=>by rw [List.foldl_cons];exact foldl_sorted l _ (insP_sorted p s h)
theorem sortP_perm (l:List (Nat × Nat)):(sortP l).Perm l:=by
 have:=foldl_perm l []
 rw [List.append_nil] at this
 exact this
theorem sortP_sorted (l:List (Nat × Nat)):(sortP l).Pairwise (fun a b=>a.1≤b.1):=foldl_sorted l [] List.Pairwise.nil
theorem brk_one {rs ks:List Int} {n:Nat} {l1 l2:List (Nat × Nat)} (h1:l1.Perm (brkF rs ks n 0 [] [])) (h2:l2.Perm (brkF rs ks n 0 [] [])) (s1:l1.Pairwise (fun a b=>a.1≤b.1)) (s2:l2.Pairwise (fun a b=>a.1≤b.1)):l1=l2:=by
 have a1:=((brkF_all rs ks n).perm h1).apart
 have a2:=((brkF_all rs ks n).perm h2).apart
 have t1:l1.Pairwise (fun a b=>a.1<b.1):=(s1.and a1).imp (fun {a b} h=>by have h1:=h.1;have h2:=h.2.1;omega)
 have t2:l2.Pairwise (fun a b=>a.1<b.1):=(s2.and a2).imp (fun {a b} h=>by have h1:=h.1;have h2:=h.2.1;omega)
 exact List.Perm.eq_of_pairwise (fun a b _ _ h1 h2=>absurd h1 (by omega)) t1 t2 (h1.trans h2.symm)
theorem resI_of {rs ks:List Int} {level sos eos:Int} {l:List (Nat × Nat)} (h:l.Perm (brkF (rs.take (min rs.length ks.length)) (alF (min rs.length ks.length) 0 (ks.take (min rs.length ks.length))) (min rs.length ks.length) 0 [] []))
 (hs:l.Pairwise (fun a b=>a.1≤b.1)):resolveF rs ks level sos eos l=resI rs ks level sos eos:=by
 unfold resI
 rw [brk_one h (sortP_perm _) hs (sortP_sorted _)]
theorem vleft_any (d:Int) (w:World):Calls Tryz.prog 162 #[.int .i8 d] w fun e w'=>e=.returned (.bool (leftB d))∧w=w':=by
 go_enter Tryz.func162,Tryz.ntmps162
 go_wp2
 all_goals (go_ret;refine⟨ret_b ?_,rfl⟩;unfold leftB;rw [Bool.eq_iff_iff];simp;try omega)
theorem upI_le (x:Nat) (k:Int):upI x k≤2:=by
 unfold upI
 split
 ·omega
 ·split <;> omega
set_option maxRecDepth 100000 in
set_option maxHeartbeats 400000 in
theorem up_any (x:Nat) (k:Int) (w:World) (hx:x≤125):Calls Tryz.prog 161 #[.int .u8 x,.int .i8 k] w fun e w'=>e=.returned (.int .u8 (upI x k:Nat))∧w=w':=by
 have hU:upI x k=if k=3∨k=6 then 2-x % 2 else if (k=1∧x % 2=0)∨(k=0∧x % 2=1) then 1 else 0:=rfl
 have HU:=lh hU
 obtain⟨h,hh⟩:∃h,x % 2=h:=⟨_,rfl⟩
 rw [hh] at HU
 have hh1:h=0∨h=1:=by omega
 have hxi:(x:Int) % 2=(h:Int):=by omega
 clear hU hh
 go_enter Tryz.func161,Tryz.ntmps161
 by_cases k3:k=3
 ·subst k3
  rcases hh1 with rfl | rfl
  ·go_wp2_with (fail)
   go_ret
   exact⟨ret_i (by rw [HU.out];rfl),rfl⟩
  ·go_wp2_with (fail)
   go_ret
   exact⟨ret_i (by rw [HU.out];rfl),rfl⟩
 ·by_cases k6:k=6
  ·subst k6
   rcases hh1 with rfl | rfl
   ·go_wp2_with (fail)
    go_ret
    exact⟨ret_i (by rw [HU.out];rfl),rfl⟩
   ·go_wp2_with (fail)
    go_ret
    exact⟨ret_i (by rw [HU.out];rfl),rfl⟩
  ·have e1:=HU.out
   rw [if_neg (by omega)] at e1
   have HE:=lh e1
   have c3:(k==3)=false:=by simpa using k3
   have c6:(k==6)=false:=by simpa using k6
   clear e1
   by_cases k1:k=1
   ·subst k1
    rcases hh1 with rfl | rfl
    ·go_wp2_with (fail)
     go_ret
     exact⟨ret_i (by rw [HE.out];rfl),rfl⟩
    ·go_wp2_with (fail)
     go_ret
     exact⟨ret_i (by rw [HE.out];rfl),rfl⟩
   ·have c1:(k==1)=false:=by simpa using k1
    by_cases k0:k=0
    ·subst k0
     rcases hh1 with rfl | rfl
     ·go_wp2_with (fail)
      go_ret
      exact⟨ret_i (by rw [HE.out];rfl),rfl⟩
     ·go_wp2_with (fail)
      go_ret
      exact⟨ret_i (by rw [HE.out];rfl),rfl⟩
    ·have c0:(k==0)=false:=by simpa using k0
     clear k3 k6
     go_wp2_with (fail)
     go_ret
     exact⟨ret_i (by rw [HE.out,if_neg (by omega)];rfl),rfl⟩
def idxF (ds:List Int) (v:Int):Nat→Nat→Int
 | 0,_ => -1
 | m+1,i=>if ith ds i=v then i else idxF ds v m (i+1)
set_option maxRecDepth 100000 in
set_option maxHeartbeats 400000 in
theorem Ix8_any (a:Option Addr) (ds:List Int) (n c:Nat) (v:Int) (w:World) (hl:ds.length=n) (hd:Rd .i8 w a ds) (hn:n≤2097152) :
 Calls Tryz.prog 118 #[.slice a n c,.int .i8 v] w fun e w'=>e=.returned (.int .i64 (idxF ds v n 0))∧w'=w:=by
 have HL:=lh hl
 obtain⟨R,hR⟩:∃R,idxF ds v n 0=R:=⟨_,rfl⟩
 rw [hR]
 have HR:=lh hR
 clear hl hR
 go_enter Tryz.func118,Tryz.ntmps118
 go_wp2_with (fail)
 go_loopw [8] (fun u wx=>∃i m:Nat,i+m=n∧u=.int .i64 i∧idxF ds v m i=R∧wx=w) (fun u _=>n-(intOf u).toNat)
 case atStart=>exact⟨0,n,by omega,rfl,HR.out,rfl⟩
 case round =>
  obtain⟨i,m,him,rfl,hF,hwx⟩:=hrel
  have hwx':=hwx.symm
  clear hwx
  subst hwx'
  cases m with
  | zero =>
    have hie:i=n:=by omega
    rw [idxF] at hF
    have HF:=lh hF
    subst hie
    clear hF him
    go_wp2_with (fail)
    go_ret
    exact⟨ret_i HF.out,rfl⟩
  | succ m =>
    have hlt:i<n:=by omega
    obtain⟨G,o,rfl,hG,hc⟩:=hd.at (Below.refl _ _) i (by have:=HL.out;omega)
    rw [idxF] at hF
    obtain⟨y,hy⟩:∃y,ith ds i=y:=⟨_,rfl⟩
    rw [hy] at hc hF
    have HF:=lh hF
    clear hy hF
    by_cases hv:y=v
    ·subst hv
     go_wp2_with (fail)
     go_ret
     exact⟨ret_i (by have:=HF.out;rwa [if_pos trivial] at this),rfl⟩
    ·have hb:(v==y)=false:=by simpa using fun e=>hv e.symm
     go_wp2_with (fail)
     go_roundw
     case rel=>exact⟨i+1,m,by omega,by go_num,by have:=HF.out;rwa [if_neg hv] at this,trivial⟩
     case measure=>simp [intOf];omega
def dealF (f:Nat→Int) (run:List Nat) (i:Nat):List Int:=(run.take i).map f++List.replicate (run.length-i) 0
theorem dealF_len (f:Nat→Int) (run:List Nat) (i:Nat) (h:i≤run.length):(dealF f run i).length=run.length:=by unfold dealF;simp;omega
theorem dealF_next (f:Nat→Int) (run:List Nat) (i:Nat) (h:i<run.length):(dealF f run i).set i (f (run.getD i 0))=dealF f run (i+1):=by
 unfold dealF
 have e:run[i]=run.getD i 0:=by rw [List.getD_eq_getElem?_getD,List.getElem?_eq_getElem h];rfl
 rw [List.take_succ_eq_append_getElem h,List.map_append,e,List.append_assoc,show run.length-i=(run.length-(i+1))+1 by omega,List.replicate_succ]
 rw [List.set_append_right _ _ (by simp;omega)]
 congr 1
 have:i-((run.take i).map f).length=0:=by simp;omega
 rw [this]
 rfl
theorem dealF_zero (f:Nat→Int) (run:List Nat) (i:Nat) (h:i<run.length):ith (dealF f run 0) i=0:=by
 unfold dealF ith
 rw [List.getD_eq_getElem?_getD]
 simp [h]
theorem dealF_all (f:Nat→Int) (run:List Nat):dealF f run run.length=run.map f:=by unfold dealF;simp
theorem ints_set (l:List Nat) (i v:Nat):ints (l.set i v)=(ints l).set i (v:Int):=by unfold ints;rw [List.map_set]
end
end Go.Proofs.YtlmjbfncopbilaaGreatDoor
