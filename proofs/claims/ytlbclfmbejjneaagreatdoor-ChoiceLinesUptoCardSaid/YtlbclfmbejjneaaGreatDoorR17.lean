/- Part 17 (merged by a program): lemmas of no further condition than each states. -/
import Derived.Maps.AppendAt
import Derived.Lib.SliceRun
import Derived.Test.YtlbclfmbejjneaaGreatDoorR16
namespace Go.Proofs.YtlbclfmbejjneaaGreatDoor
set_option linter.unusedVariables false
set_option linter.unusedSimpArgs false
section
open Go.RowKit
theorem Tryz.info_i8:(Tryz.prog.info? 22).map (fun i=>(i.zero,i.size,i.bytes))=some (some (.int .i8 0),1,1):=by kernel_rfl
def BeganPost (ks:List Int) (sos:Int) (w:World) (e:Ending) (w':World):Prop :=
 ∃ao cap,e=.returned (.tuple #[.slice ao ks.length cap,.int .i8 (if sos=1 then 1 else 0)])∧OutAt .i8 22 w' w.heap.size ao cap (ks.map lkn)∧Below w.heap.size w w'
def begF (ks:List Int) (i:Nat):List Int:=(ks.take i).map lkn++List.replicate (ks.length-i) 0
theorem begF_next (ks:List Int) (i:Nat) (h:i<ks.length):(begF ks i).set i (lkn (ith ks i))=begF ks (i+1):=by
 unfold begF
 have e:ks[i]=ith ks i:=by rw [ith,List.getD_eq_getElem?_getD,List.getElem?_eq_getElem h];rfl
 rw [List.take_succ_eq_append_getElem h,List.map_append,e,List.append_assoc,show ks.length-i=(ks.length-(i+1))+1 by omega,List.replicate_succ]
 rw [List.set_append_right _ _ (by simp;omega)]
 congr 1
 have:i-((ks.take i).map lkn).length=0:=by simp;omega
 rw [this]
 rfl
theorem begF_zero (ks:List Int) (i:Nat) (h:i<ks.length):ith (begF ks 0) i=0:=by
 unfold begF ith
 rw [List.getD_eq_getElem?_getD]
 simp [h]
theorem begF_len (ks:List Int) (i:Nat) (h:i≤ks.length):(begF ks i).length=ks.length:=by
 unfold begF;simp;omega
set_option maxHeartbeats 1000000 in
theorem began_any (ka:Option Addr) (ks:List Int) (kc:Nat) (sos:Int) (w:World) (hk:Rd .i8 w ka ks) (hkn:ks.length≤2097152) :
 Calls Tryz.prog 160 #[.slice ka ks.length kc,.int .i8 sos] w (BeganPost ks sos w):=by
 obtain⟨i40,hi40,hz40,ha40,hb40⟩:=info_parts (Tryz.info_i8)
 go_enter Tryz.func160,Tryz.ntmps160
 have hmk:=run_make_row (P:=Tryz.prog) 142 22 i40 (.int .i8 0) Tryz.underlying142 hi40 hz40 ha40 rfl .i64 .i64 ks.length (by rw [hb40];omega) (by omega)
 go_wp2_with (fail)
 clear hmk
 have hrow0:=World.rowIs_made w (.int .i8 0) ks.length 22
 have hO0:OutAt .i8 22 (w.alloc (.cells (madeCells #[.int .i8 0] ks.length) 22)) w.heap.size (some ⟨w.heap.size,0,none⟩) ks.length (begF ks 0) :=
  out_of_row (hrow0.congr fun i hi=>by rw [begF_zero ks i hi]) (begF_len ks 0 (by omega)) (Nat.le_refl _) (by unfold maxLen;omega)
 have hb0:=(Below.refl w.heap.size w).alloc (Nat.le_refl _) (.cells (madeCells #[.int .i8 0] ks.length) 22)
 clear hrow0
 go_loopw [14] (fun c wx=>∃i:Nat,i≤ks.length∧c=.int .i64 i∧OutAt .i8 22 wx w.heap.size (some ⟨w.heap.size,0,none⟩) ks.length (begF ks i)∧Below w.heap.size w wx) (fun c _=>ks.length-(intOf c).toNat)
 case atStart=>exact⟨0,by omega,rfl,hO0,hb0⟩
 case round =>
  obtain⟨i,hi,rfl,hO,hbel⟩:=hrel
  clear hO0 hb0
  by_cases hlt:i<ks.length
  ·obtain⟨kb,ko,rfl,hkb,hkc⟩:=hk.at hbel i hlt
   obtain⟨G,hG,hGb,hGl,hGc,hGf,_,_⟩:=hO.at i (by rw [begF_len ks i hi];exact hlt)
   cases hG
   have hnext:=begF_next ks i hlt
   generalize hy:ith ks i=y at hkc hnext
   have hb2:=hbel.setCell (p:=⟨w.heap.size,i,none⟩) (Nat.le_refl _) (.int .i8 (lkn y))
   have hO2:=hO.set i (lkn y)
   rw [hnext] at hO2
   have HO2:=lh hO2
   have HB2:=lh hb2
   clear hnext hO2 hb2 hy
   by_cases hbad:y<0∨22<y
   ·have e:lkn y=13:=if_pos hbad
    rw [e] at HO2 HB2
    rcases hbad with hbad | hbad
    ·clear e
     go_wp2_with (fail)
     go_roundw
     case rel=>exact⟨i+1,by omega,by go_num,HO2.out,HB2.out⟩
     case measure=>simp [intOf];omega
    ·have h0:¬ y<0:=by omega
     clear e
     go_wp2_with (fail)
     go_roundw
     case rel=>exact⟨i+1,by omega,by go_num,HO2.out,HB2.out⟩
     case measure=>simp [intOf];omega
   ·have e:lkn y=y:=if_neg hbad
    rw [e] at HO2 HB2
    have h0:¬ y<0:=by omega
    have h1:¬ 22<y:=by omega
    clear e hbad
    go_wp2_with (fail)
    go_roundw
    case rel=>exact⟨i+1,by omega,by go_num,HO2.out,HB2.out⟩
    case measure=>simp [intOf];omega
  ·have hie:i=ks.length:=by omega
   have hfin:begF ks i=ks.map lkn:=by unfold begF;rw [hie,List.take_length,Nat.sub_self,List.replicate_zero,List.append_nil]
   rw [hfin] at hO
   have HIE:=lh hie
   clear hie hfin
   by_cases h1:sos=1
   ·subst h1
    go_wp2_with (fail)
    go_ret2
    exact⟨_,_,rfl,hO,hbel⟩
   ·have hb:(sos != 1)=true:=by simpa using h1
    go_wp2_with (fail)
    go_ret2
    exact⟨_,_,by rw [if_neg h1];rfl,hO,hbel⟩
end
section
open Go.RowKit
def rulesC:Array Value:=#[.func (.func 184) #[] #[],.func (.func 185) #[] #[],.func (.func 186) #[] #[],.func (.func 187) #[] #[],.func (.func 188) #[] #[],.func (.func 189) #[] #[],.func (.func 190) #[] #[]]
set_option maxRecDepth 100000 in
set_option maxHeartbeats 400000 in
theorem rules_any (w:World):Calls Tryz.prog 161 #[] w fun e w'=>e=.returned (.agg rulesC)∧Below w.heap.size w w':=by
 go_enter Tryz.func161,Tryz.ntmps161
 go_upto_region 1 with (fail)
 go_wp2_with (refine wpList_store_row rfl 233 (.tmp 0) (.tmp 1) rfl w.heap.size rulesC rfl rfl 233 _ (heap_alloc_new w _) (by kernel_rfl) rfl (by kernel_rfl) ?_)
 refine bodyPost_ret (results_cell_row rfl _ _ w.heap.size _ _ _ _ rfl (setRow_heap _ _ _ _ _ _ (heap_alloc_new w _)) Tryz.underlying233 rfl (by kernel_rfl)) rfl ⟨rfl,?_⟩
 exact tab_below w _ _
theorem rules_0 (w:World):Sem.run Tryz.prog (Instr.index 233 (.agg rulesC) (.int .i64 0)) w=.ok (.func (.func 184) #[] #[]) w:=by kernel_rfl
theorem rules_1 (w:World):Sem.run Tryz.prog (Instr.index 233 (.agg rulesC) (.int .i64 1)) w=.ok (.func (.func 185) #[] #[]) w:=by kernel_rfl
theorem rules_2 (w:World):Sem.run Tryz.prog (Instr.index 233 (.agg rulesC) (.int .i64 2)) w=.ok (.func (.func 186) #[] #[]) w:=by kernel_rfl
theorem rules_3 (w:World):Sem.run Tryz.prog (Instr.index 233 (.agg rulesC) (.int .i64 3)) w=.ok (.func (.func 187) #[] #[]) w:=by kernel_rfl
theorem rules_4 (w:World):Sem.run Tryz.prog (Instr.index 233 (.agg rulesC) (.int .i64 4)) w=.ok (.func (.func 188) #[] #[]) w:=by kernel_rfl
theorem rules_5 (w:World):Sem.run Tryz.prog (Instr.index 233 (.agg rulesC) (.int .i64 5)) w=.ok (.func (.func 189) #[] #[]) w:=by kernel_rfl
theorem rules_6 (w:World):Sem.run Tryz.prog (Instr.index 233 (.agg rulesC) (.int .i64 6)) w=.ok (.func (.func 190) #[] #[]) w:=by kernel_rfl
def ruleF (n:Nat) (s:Int):Nat→List Int→List Int
 | 0,l=>marksF n 0 s l
 | 1,l=>arabicF n 0 s l
 | 2,l=>lettersF n 0 l
 | 3,l=>sepF (n-2) 1 l
 | 4,l=>termF (n+1) 0 l
 | 5,l=>othersF n 0 l
 | _,l=>digitsF n 0 s l
def stageF (n:Nat) (s:Int) (l:List Int):Nat→List Int
 | 0=>l
 | k+1=>ruleF n s k (stageF n s l k)
theorem stage_all (ks:List Int) (sos:Int):stageF ks.length (if sos=1 then 1 else 0) (ks.map lkn) 7=weakF ks sos:=rfl
def WeakPost (ks:List Int) (sos:Int) (w:World) (e:Ending) (w':World):Prop :=
 ∃ao cap,e=.returned (.slice ao ks.length cap)∧(weakF ks sos).length=ks.length∧OutAt .i8 22 w' w.heap.size ao cap (weakF ks sos)∧Below w.heap.size w w'
set_option maxRecDepth 100000 in
set_option maxHeartbeats 1000000 in
theorem WResolve_any (ka:Option Addr) (ks:List Int) (kc:Nat) (sos:Int) (w:World) (hk:Rd .i8 w ka ks) (hkn:ks.length≤2097152) :
 Calls Tryz.prog 131 #[.slice ka ks.length kc,.int .i8 sos] w (WeakPost ks sos w):=by
 have hb:=began_any ka ks kc sos w hk hkn
 have hfin:=stage_all ks sos
 obtain⟨s,hs⟩:∃s:Int,(if sos=1 then 1 else 0)=s:=⟨_,rfl⟩
 unfold BeganPost at hb
 rw [hs] at hb hfin
 obtain⟨l0,hl0⟩:∃l0,ks.map lkn=l0:=⟨_,rfl⟩
 have hlen0:l0.length=ks.length:=by rw [←hl0];simp
 rw [hl0] at hb hfin
 obtain⟨n,hn⟩:∃n,ks.length=n:=⟨_,rfl⟩
 rw [hn] at hb hfin hkn hlen0 ⊢
 obtain⟨B,hB⟩:∃B,w.heap.size=B:=⟨_,rfl⟩
 have hpost:∀ao cap w',(stageF n s l0 7).length=n→OutAt .i8 22 w' w.heap.size ao cap (stageF n s l0 7)→Below w.heap.size w w'→WeakPost ks sos w (.returned (.slice ao n cap)) w':=fun ao cap w' h1 h2 h3 =>
  ⟨ao,cap,by rw [hn],by rw [←hfin,hn];exact h1,by rw [←hfin];exact h2,h3⟩
 have HPOST:=lh hpost
 have HL0:=lh hlen0
 clear hk hs hl0 hn hfin hpost hlen0
 go_enter Tryz.func131,Tryz.ntmps131
 go_wp2_with (first | (go_at_call 160;refine hb.mono ?_;rintro e w1 ⟨ao,cap,rfl,hO,hb1⟩) | (go_at_call 161;refine (rules_any w1).mono ?_;rintro e w2 ⟨rfl,hb2⟩))
 have hbw:=hb1.trans (hb2.mono hb1.size)
 have hO2:=OutAt.keep hO hb2
 clear hb hb1 hb2 hO
 have q0:=rules_0
 have q1:=rules_1
 have q2:=rules_2
 have q3:=rules_3
 have q4:=rules_4
 have q5:=rules_5
 have q6:=rules_6
 go_loopw [15] (fun c wx=>∃i:Nat,i≤7∧c=.int .i64 i∧(stageF n s l0 i).length=n∧OutAt .i8 22 wx w.heap.size ao cap (stageF n s l0 i)∧Below w.heap.size w wx) (fun c _=>7-(intOf c).toNat)
 case atStart=>exact⟨0,by omega,rfl,HL0.out,hO2,hbw⟩
 case round =>
  obtain⟨i,hi,rfl,hlen,hO,hbel⟩:=hrel
  have HLEN:=lh hlen
  have HO:=lh hO
  have hrow:∀k,(Value.slice ao n cap).ownBlock=some k→w.heap.size≤k:=fun k hk=>(World.ownsRow.lt hO k (by rw [hlen];exact hk)).1
  have HROW:=lh hrow
  clear hlen hO hO2 hbw hrow
  by_cases h7:i=7
  ·subst h7
   go_wp2_with (fail)
   go_ret
   exact HPOST.out ao cap _ HLEN.out HO.out hbel
  ·have h:i=0∨i=1∨i=2∨i=3∨i=4∨i=5∨i=6:=by omega
   clear h7 hi
   rcases h with rfl | rfl | rfl | rfl | rfl | rfl | rfl
   all_goals
    go_wp2_with (first | (go_at_call 184;refine (marks_any ao cap w.heap.size n s _ wr HLEN.out HO.out hkn).mono ?_;rintro e w3 ⟨rfl,h1,h2,h3⟩) | (go_at_call 185;refine (arabic_any ao cap w.heap.size n s _ wr HLEN.out HO.out hkn).mono ?_;rintro e w3 ⟨rfl,h1,h2,h3⟩) | (go_at_call 186;refine (letters_any ao cap w.heap.size n s _ wr HLEN.out HO.out hkn).mono ?_;rintro e w3 ⟨rfl,h1,h2,h3⟩) | (go_at_call 187;refine (separators_any ao cap w.heap.size n s _ wr HLEN.out HO.out hkn).mono ?_;rintro e w3 ⟨rfl,h1,h2,h3⟩) | (go_at_call 188;refine (terminators_any ao cap w.heap.size n s _ wr HLEN.out HO.out hkn).mono ?_;rintro e w3 ⟨rfl,h1,h2,h3⟩) | (go_at_call 189;refine (others_any ao cap w.heap.size n s _ wr HLEN.out HO.out hkn).mono ?_;rintro e w3 ⟨rfl,h1,h2,h3⟩) | (go_at_call 190;refine (digits_any ao cap w.heap.size n s _ wr HLEN.out HO.out hkn).mono ?_;rintro e w3 ⟨rfl,h1,h2,h3⟩))
    go_roundw
    case rel=>first | exact⟨1,by omega,rfl,h1,h2,hbel.grown h3 hbel.size HROW.out⟩ | exact⟨2,by omega,rfl,h1,h2,hbel.grown h3 hbel.size HROW.out⟩ | exact⟨3,by omega,rfl,h1,h2,hbel.grown h3 hbel.size HROW.out⟩ | exact⟨4,by omega,rfl,h1,h2,hbel.grown h3 hbel.size HROW.out⟩ | exact⟨5,by omega,rfl,h1,h2,hbel.grown h3 hbel.size HROW.out⟩ | exact⟨6,by omega,rfl,h1,h2,hbel.grown h3 hbel.size HROW.out⟩ | exact⟨7,by omega,rfl,h1,h2,hbel.grown h3 hbel.size HROW.out⟩
    case measure=>simp [intOf]
end
section
open Go.RowKit
set_option maxHeartbeats 400000 in
theorem lknown_any (d:Int) (w:World):Calls Tryz.prog 124 #[.int .i8 d] w fun e w'=>e=.returned (.int .i8 (lkn d))∧w=w':=by
 go_enter Tryz.func124,Tryz.ntmps124
 go_wp2
 all_goals (go_ret;refine⟨ret_i ?_,rfl⟩;unfold lkn;first | rw [if_pos (by omega)] | rw [if_neg (by omega)])
set_option maxHeartbeats 400000 in
theorem lleft_any (d:Int) (w:World):Calls Tryz.prog 152 #[.int .i8 d] w fun e w'=>e=.returned (.bool (leftB d))∧w=w':=by
 go_enter Tryz.func152,Tryz.ntmps152
 go_wp2
 all_goals (go_ret;refine⟨ret_b ?_,rfl⟩;unfold leftB;rw [Bool.eq_iff_iff];simp;try omega)
set_option maxHeartbeats 400000 in
theorem lopens_any (d:Int) (w:World):Calls Tryz.prog 144 #[.int .i8 d] w fun e w'=>e=.returned (.bool (opensB d))∧w=w':=by
 go_enter Tryz.func144,Tryz.ntmps144
 go_wp2
 all_goals (go_ret;refine⟨ret_b ?_,rfl⟩;unfold opensB;rw [Bool.eq_iff_iff];simp;try omega)
set_option maxHeartbeats 1000000 in
theorem first_any (a:Option Addr) (ds:List Int) (n cap:Nat) (w:World) (hl:ds.length=n) (hd:Rd .i8 w a ds) (hn:n≤2097152) :
 Calls Tryz.prog 125 #[.slice a n cap] w fun e w'=>e=.returned (.int .i8 (firstI ds))∧w'=w:=by
 have HL:=lh hl
 have HC:=lh (fun i (hi:i<n)=>hd.at (Below.refl _ _) i (by omega))
 have HI:Hid (firstI ds=firstF ds n 0 0):=by rw [←hl];rfl
 clear hl hd
 go_enter Tryz.func125,Tryz.ntmps125
 go_wp2_with (fail)
 go_loopw [3,8] (fun dp c wx=>wx=w∧∃(i m deep:Nat),i+m=n∧dp=.int .i64 deep∧c=.int .i64 i∧deep≤i∧firstF ds m i deep=firstF ds n 0 0) (fun _ c _=>n-(intOf c).toNat)
 case atStart=>exact⟨rfl,0,n,0,by omega,rfl,rfl,by omega,rfl⟩
 case round =>
  obtain⟨hwx,i,m,deep,him,rfl,rfl,hdi,hF⟩:=hrel
  have hwx':=hwx.symm
  clear hwx
  subst hwx'
  have HIM:=lh him
  have HF:=lh hF
  clear him hF
  by_cases hi:i<n
  ·obtain⟨m,rfl⟩:∃q,m=q+1:=⟨m-1,by have:=HIM.out;omega⟩
   obtain⟨G,o,rfl,_,hGc⟩:=HC.out i hi
   have hst:∀d,lkn (ith ds i)=d→firstF ds (m+1) i deep=if opensB d=true then firstF ds m (i+1) (deep+1) else if d=22∧0<deep then firstF ds m (i+1) (deep-1) else if d=22∨d=10 then 13
    else if deep=0∧(d=0∨d=1∨d=2) then d else firstF ds m (i+1) deep:=fun d h=>by rw [firstF,h]
   generalize ith ds i=y at hGc hst
   obtain⟨d,hd⟩:∃d,lkn y=d:=⟨_,rfl⟩
   have hs:=hst d hd
   have HD:Hid (∀W,Calls Tryz.prog 124 #[.int .i8 y] W fun e w'=>e=.returned (.int .i8 d)∧W=w'):=fun W=>by rw [←hd];exact lknown_any y W
   clear hst hd
   by_cases ho:opensB d=true
   ·have HN:=lh (hs.trans (if_pos ho))
    clear hs
    go_wp2_with (first | (go_at_call 124;refine (HD.out _).mono ?_;rintro e w' ⟨rfl,rfl⟩) | (go_at_call 144;refine (lopens_any _ _).mono ?_;rintro e w' ⟨rfl,rfl⟩))
    go_roundw
    case rel=>exact⟨trivial,i+1,m,deep+1,by have:=HIM.out;omega,rfl,by go_num,by omega,by rw [←HF.out,HN.out]⟩
    case measure=>simp [intOf];omega
   ·rw [if_neg ho] at hs
    have hof:opensB d=false:=by simpa using ho
    clear ho
    by_cases h22:d=22
    ·subst h22
     by_cases hdp:0<deep
     ·have HN:=lh (hs.trans (if_pos ⟨rfl,hdp⟩))
      clear hs
      obtain⟨dp',rfl⟩:∃q,deep=q+1:=⟨deep-1,by omega⟩
      rw [Nat.add_sub_cancel] at HN
      go_wp2_with (first | (go_at_call 124;refine (HD.out _).mono ?_;rintro e w' ⟨rfl,rfl⟩) | (go_at_call 144;refine (lopens_any _ _).mono ?_;rintro e w' ⟨rfl,rfl⟩))
      go_roundw
      case rel=>exact⟨trivial,i+1,m,dp',by have:=HIM.out;omega,rfl,by go_num,by omega,by rw [←HF.out,HN.out]⟩
      case measure=>simp [intOf];omega
     ·have HN:=lh ((hs.trans (if_neg (fun h=>hdp h.2))).trans (if_pos (.inl rfl)))
      clear hs
      go_wp2_with (first | (go_at_call 124;refine (HD.out _).mono ?_;rintro e w' ⟨rfl,rfl⟩) | (go_at_call 144;refine (lopens_any _ _).mono ?_;rintro e w' ⟨rfl,rfl⟩))
      go_ret
      exact⟨ret_i (by rw [HI.out,←HF.out,HN.out]),rfl⟩
    ·have c22:(d==22)=false:=by simpa using h22
     rw [if_neg (fun h=>h22 h.1)] at hs
     by_cases h10:d=10
     ·subst h10
      have HN:=lh (hs.trans (if_pos (.inr rfl)))
      clear hs h22
      go_wp2_with (first | (go_at_call 124;refine (HD.out _).mono ?_;rintro e w' ⟨rfl,rfl⟩) | (go_at_call 144;refine (lopens_any _ _).mono ?_;rintro e w' ⟨rfl,rfl⟩))
      go_ret
      exact⟨ret_i (by rw [HI.out,←HF.out,HN.out]),rfl⟩
     ·have c10:(d==10)=false:=by simpa using h10
      rw [if_neg (fun h=>h.elim h22 h10)] at hs
      clear h22 h10
      by_cases h0:deep=0
      ·subst h0
       by_cases h3:d=0∨d=1∨d=2
       ·have HN:=lh (hs.trans (if_pos ⟨rfl,h3⟩))
        clear hs
        rcases h3 with h3 | h3 | h3
        all_goals
         subst h3
         go_wp2_with (first | (go_at_call 124;refine (HD.out _).mono ?_;rintro e w' ⟨rfl,rfl⟩) | (go_at_call 144;refine (lopens_any _ _).mono ?_;rintro e w' ⟨rfl,rfl⟩))
         go_ret
         exact⟨ret_i (by rw [HI.out,←HF.out,HN.out]),rfl⟩
       ·have HN:=lh (hs.trans (if_neg (fun h=>h3 h.2)))
        have c0:(d==0)=false:=by simp only [not_or] at h3;simpa using h3.1
        have c1:(d==1)=false:=by simp only [not_or] at h3;simpa using h3.2.1
        have c2:(d==2)=false:=by simp only [not_or] at h3;simpa using h3.2.2
        clear hs h3
        go_wp2_with (first | (go_at_call 124;refine (HD.out _).mono ?_;rintro e w' ⟨rfl,rfl⟩) | (go_at_call 144;refine (lopens_any _ _).mono ?_;rintro e w' ⟨rfl,rfl⟩))
        go_roundw
        case rel=>exact⟨trivial,i+1,m,0,by have:=HIM.out;omega,rfl,by go_num,by omega,by rw [←HF.out,HN.out]⟩
        case measure=>simp [intOf];omega
      ·have HN:=lh (hs.trans (if_neg (fun h=>h0 h.1)))
       have cd:((deep:Int)==0)=false:=by simp only [beq_eq_false_iff_ne];omega
       clear hs
       go_wp2_with (first | (go_at_call 124;refine (HD.out _).mono ?_;rintro e w' ⟨rfl,rfl⟩) | (go_at_call 144;refine (lopens_any _ _).mono ?_;rintro e w' ⟨rfl,rfl⟩))
       go_roundw
       case rel=>exact⟨trivial,i+1,m,deep,by have:=HIM.out;omega,rfl,by go_num,by omega,by rw [←HF.out,HN.out]⟩
       case measure=>simp [intOf];omega
  ·have h0:m=0:=by have:=HIM.out;omega
   have HZ:Hid ((13:Int)=firstF ds n 0 0):=by subst h0;exact HF
   go_wp2_with (fail)
   go_ret
   exact⟨ret_i (by rw [HI.out,←HZ.out]),rfl⟩
set_option maxHeartbeats 1000000 in
theorem after_any (a:Option Addr) (ds:List Int) (n cap fr:Nat) (w:World) (hl:ds.length=n) (hd:Rd .i8 w a ds) (hn:n≤2097152) (hfr:fr≤n) :
 Calls Tryz.prog 126 #[.slice a n cap,.int .i64 fr] w fun e w'=>e=.returned (.int .i64 (afterF ds (n-fr) fr 0))∧w'=w:=by
 have HL:=lh hl
 have HC:=lh (fun i (hi:i<n)=>hd.at (Below.refl _ _) i (by omega))
 clear hl hd
 go_enter Tryz.func126,Tryz.ntmps126
 go_wp2_with (fail)
 go_loopw [5,6] (fun dp c wx=>wx=w∧∃(i m deep:Nat),i+m=n∧dp=.int .i64 deep∧c=.int .i64 i∧deep≤i∧afterF ds m i deep=afterF ds (n-fr) fr 0) (fun _ c _=>n-(intOf c).toNat)
 case atStart=>exact⟨rfl,fr,n-fr,0,by omega,rfl,rfl,by omega,rfl⟩
 case round =>
  obtain⟨hwx,i,m,deep,him,rfl,rfl,hdi,hF⟩:=hrel
  have hwx':=hwx.symm
  clear hwx
  subst hwx'
  have HIM:=lh him
  have HF:=lh hF
  clear him hF
  by_cases hi:i<n
  ·obtain⟨m,rfl⟩:∃q,m=q+1:=⟨m-1,by have:=HIM.out;omega⟩
   obtain⟨G,o,rfl,_,hGc⟩:=HC.out i hi
   have hst:∀d,lkn (ith ds i)=d→afterF ds (m+1) i deep=if opensB d=true then afterF ds m (i+1) (deep+1) else if d=22∧deep=0 then (i:Int)+1 else if d=22 then afterF ds m (i+1) (deep-1)
    else if d=10 then -1 else afterF ds m (i+1) deep:=fun d h=>by rw [afterF,h]
   generalize ith ds i=y at hGc hst
   obtain⟨d,hd⟩:∃d,lkn y=d:=⟨_,rfl⟩
   have hs:=hst d hd
   have HD:Hid (∀W,Calls Tryz.prog 124 #[.int .i8 y] W fun e w'=>e=.returned (.int .i8 d)∧W=w'):=fun W=>by rw [←hd];exact lknown_any y W
   clear hst hd
   by_cases ho:opensB d=true
   ·have HN:=lh (hs.trans (if_pos ho))
    clear hs
    go_wp2_with (first | (go_at_call 124;refine (HD.out _).mono ?_;rintro e w' ⟨rfl,rfl⟩) | (go_at_call 144;refine (lopens_any _ _).mono ?_;rintro e w' ⟨rfl,rfl⟩))
    go_roundw
    case rel=>exact⟨trivial,i+1,m,deep+1,by have:=HIM.out;omega,rfl,by go_num,by omega,by rw [←HF.out,HN.out]⟩
    case measure=>simp [intOf];omega
   ·rw [if_neg ho] at hs
    have hof:opensB d=false:=by simpa using ho
    clear ho
    by_cases h22:d=22
    ·subst h22
     by_cases hdp:deep=0
     ·subst hdp
      have HN:=lh (hs.trans (if_pos ⟨rfl,rfl⟩))
      clear hs
      go_wp2_with (first | (go_at_call 124;refine (HD.out _).mono ?_;rintro e w' ⟨rfl,rfl⟩) | (go_at_call 144;refine (lopens_any _ _).mono ?_;rintro e w' ⟨rfl,rfl⟩))
      go_ret
      exact⟨ret_i (by rw [←HF.out,HN.out]),rfl⟩
     ·have HN:=lh ((hs.trans (if_neg (fun h=>hdp h.2))).trans (if_pos rfl))
      clear hs
      obtain⟨dp',rfl⟩:∃q,deep=q+1:=⟨deep-1,by omega⟩
      rw [Nat.add_sub_cancel] at HN
      have cd:(((dp'+1:Nat):Int)==0)=false:=by simp only [beq_eq_false_iff_ne];omega
      go_wp2_with (first | (go_at_call 124;refine (HD.out _).mono ?_;rintro e w' ⟨rfl,rfl⟩) | (go_at_call 144;refine (lopens_any _ _).mono ?_;rintro e w' ⟨rfl,rfl⟩))
      go_roundw
      case rel=>exact⟨trivial,i+1,m,dp',by have:=HIM.out;omega,rfl,by go_num,by omega,by rw [←HF.out,HN.out]⟩
      case measure=>simp [intOf];omega
    ·have c22:(d==22)=false:=by simpa using h22
     rw [if_neg (fun h=>h22 h.1),if_neg h22] at hs
     by_cases h10:d=10
     ·subst h10
      have HN:=lh (hs.trans (if_pos rfl))
      clear hs h22
      go_wp2_with (first | (go_at_call 124;refine (HD.out _).mono ?_;rintro e w' ⟨rfl,rfl⟩) | (go_at_call 144;refine (lopens_any _ _).mono ?_;rintro e w' ⟨rfl,rfl⟩))
      go_ret
      exact⟨ret_i (by rw [←HF.out,HN.out]),rfl⟩
     ·have c10:(d==10)=false:=by simpa using h10
      have HN:=lh (hs.trans (if_neg h10))
      clear h22 h10 hs
      go_wp2_with (first | (go_at_call 124;refine (HD.out _).mono ?_;rintro e w' ⟨rfl,rfl⟩) | (go_at_call 144;refine (lopens_any _ _).mono ?_;rintro e w' ⟨rfl,rfl⟩))
      go_roundw
      case rel=>exact⟨trivial,i+1,m,deep,by have:=HIM.out;omega,rfl,by go_num,by omega,by rw [←HF.out,HN.out]⟩
      case measure=>simp [intOf];omega
  ·have h0:m=0:=by have:=HIM.out;omega
   have HZ:Hid ((-1:Int)=afterF ds (n-fr) fr 0):=by subst h0;exact HF
   go_wp2_with (fail)
   go_ret
   exact⟨ret_i (by rw [←HZ.out]),rfl⟩
end
section
open Go.RowKit
theorem afterF_bd (ds:List Int):∀(m i deep:Nat),afterF ds m i deep = -1∨((i:Int)+1≤afterF ds m i deep∧afterF ds m i deep≤(i:Int)+m)
 | 0,i,deep=>.inl rfl
 | m+1,i,deep=>by
   have h1:=afterF_bd ds m (i+1) (deep+1)
   have h2:=afterF_bd ds m (i+1) (deep-1)
   have h3:=afterF_bd ds m (i+1) deep
   unfold afterF
   split
   ·rcases h1 with h | h
    ·exact .inl h
    ·exact .inr (by omega)
   ·split
    ·exact .inr (by omega)
    ·split
     ·rcases h2 with h | h
      ·exact .inl h
      ·exact .inr (by omega)
     ·split
      ·exact .inl rfl
      ·rcases h3 with h | h
       ·exact .inl h
       ·exact .inr (by omega)
theorem skipF_bd (ds:List Int):∀(m i:Nat),i≤skipF ds m i∧skipF ds m i≤i+m
 | 0,i=>⟨Nat.le_refl _,Nat.le_refl _⟩
 | m+1,i=>by
   have:=skipF_bd ds m (i+1)
   unfold skipF
   split <;> omega
theorem rd_drop {k:IntKind} {w:World} {b o:Nat} {xs:List Int} (h:Rd k w (some ⟨b,o,none⟩) xs) (i:Nat):Rd k w (some ⟨b,o+i,none⟩) (xs.drop i):=by
 rcases h with h | ⟨b',o',h1,h2,h3⟩
 ·subst h;exact .inl (by simp)
 ·cases h1
  refine .inr ⟨b,o+i,rfl,h2,fun j hj=>?_⟩
  rw [List.length_drop] at hj
  have:=h3 (i+j) (by omega)
  rw [show o+i+j=o+(i+j) by omega,this]
  congr 2
  simp [ith]
set_option maxRecDepth 100000 in
set_option maxHeartbeats 400000 in
theorem Base_fuel (want:Int) (w:World):∀(f:Nat) (a:Option Addr) (ds:List Int) (n cap:Nat),ds.length=n→n<f→Rd .i8 w a ds→n≤2097152→n≤cap→cap≤maxLen →
 Calls Tryz.prog 101 #[.slice a n cap,.int .i8 want] w fun e w'=>e=.returned (.int .u8 (baseF want f ds))∧w'=w
 | 0,_,_,_,_,_,h,_,_,_,_=>absurd h (by omega)
 | f+1,a,ds,n,cap,hl,hf,hd,hn,hc,hm=>by
   unfold maxLen at hm
   have ih:=Base_fuel want w f
   have IH:=lh ih
   clear ih
   have HL:=lh hl
   have HDR:=lh hd
   have HC:=lh (fun i (hi:i<n)=>hd.at (Below.refl _ _) i (by omega))
   obtain⟨V,hB⟩:∃V,baseF want (f+1) ds=V:=⟨_,rfl⟩
   rw [hB]
   rw [baseF,hl] at hB
   clear hl hd
   go_enter Tryz.func101,Tryz.ntmps101
   by_cases h1:want=1
   ·subst h1
    rw [if_pos rfl] at hB
    have HB:=lh hB
    clear hB
    go_wp2_with (fail)
    go_ret
    exact⟨ret_i HB.out,rfl⟩
   ·rw [if_neg h1] at hB
    have b1:(want==1)=false:=by simpa using h1
    clear h1
    by_cases h2:want=2
    ·subst h2
     rw [if_pos rfl] at hB
     have HB:=lh hB
     clear hB
     go_wp2_with (fail)
     go_ret
     exact⟨ret_i HB.out,rfl⟩
    ·rw [if_neg h2] at hB
     have b2:(want==2)=false:=by simpa using h2
     clear h2
     obtain⟨S,hS⟩:∃S,skipF ds n 0=S:=⟨_,rfl⟩
     have hSn:=(skipF_bd ds n 0).2
     rw [hS] at hB hSn
     have HB:=lh hB
     have HS:=lh hS
     clear hB hS
     go_wp2_with (fail)
     go_loopw [16] (fun c wx=>wx=w∧∃(i m:Nat),i+m=n∧c=.int .i64 i∧skipF ds m i=S) (fun c _=>n-(intOf c).toNat)
     case atStart=>exact⟨rfl,0,n,by omega,rfl,HS.out⟩
     case round =>
      obtain⟨hwx,i,m,him,rfl,hF⟩:=hrel
      have hwx':=hwx.symm
      clear hwx
      subst hwx'
      have HIM:=lh him
      have HF:=lh hF
      clear him hF
      by_cases hi:i<n
      ·obtain⟨m,rfl⟩:∃q,m=q+1:=⟨m-1,by have:=HIM.out;omega⟩
       obtain⟨G,o,rfl,hGl,hGc⟩:=HC.out i hi
       have hst:∀d,lkn (ith ds i)=d→skipF ds (m+1) i=if d=22 then skipF ds m (i+1) else i:=fun d h=>by rw [skipF,h]
       have hlk:∀d,lkn (ith ds i)=d→lkn (ith ds i)=d:=fun d h=>h
       generalize hy:ith ds i=y at hGc hst hlk
       obtain⟨d,hd⟩:∃d,lkn y=d:=⟨_,rfl⟩
       have hs:=hst d hd
       have HD:Hid (∀W,Calls Tryz.prog 124 #[.int .i8 y] W fun e w'=>e=.returned (.int .i8 d)∧W=w'):=fun W=>by rw [←hd];exact lknown_any y W
       have HYD:=lh (show lkn (ith ds i)=d by rw [hy];exact hd)
       clear hst hd hlk hy
       by_cases h22:d=22
       ·have HN:=lh (hs.trans (if_pos h22))
        subst h22
        clear hs
        go_wp2_with (go_at_call 124;refine (HD.out _).mono ?_;rintro e w' ⟨rfl,rfl⟩)
        go_roundw
        case rel=>exact⟨trivial,i+1,m,by have:=HIM.out;omega,by go_num,by rw [←HF.out,HN.out]⟩
        case measure=>simp [intOf];omega
       ·have hiS:i=S:=(hs.trans (if_neg h22)).symm.trans HF.out
        have c22:(d==22)=false:=by simpa using h22
        clear hs h22
        subst hiS
        have hB:=HB.out
        clear HB HS HF
        rw [if_neg (by omega),HYD.out] at hB
        by_cases h10:d=10
        ·rw [if_pos h10] at hB
         have HB:=lh hB
         subst h10
         clear hB
         go_wp2_with (go_at_call 124;refine (HD.out _).mono ?_;rintro e w' ⟨rfl,rfl⟩)
         go_ret
         exact⟨ret_i HB.out,rfl⟩
        ·rw [if_neg h10] at hB
         have c10:(d==10)=false:=by simpa using h10
         have HFI:=lh (first_any (some ⟨G,o+i,none⟩) (ds.drop i) (n-i) (cap-i) w (by rw [List.length_drop,HL.out]) (rd_drop HDR.out i) (by omega))
         obtain⟨R,hR⟩:∃R,firstI (ds.drop i)=R:=⟨_,rfl⟩
         rw [hR] at hB HFI
         have HB:=lh hB
         have g1:(i:Int)≤(n:Int):=by omega
         have g2:(n:Int)≤(cap:Int):=by omega
         have g3:¬ cap=i:=by omega
         clear hB hR h10
         go_upto_region 14 with (first | (go_at_call 124;refine (HD.out _).mono ?_;rintro e w' ⟨rfl,rfl⟩) | (go_at_call 125;refine (HFI.out).mono ?_;rintro e w' ⟨rfl,hw'⟩;have hw2:=hw'.symm;clear hw';subst hw2))
         by_cases h13:R=13
         ·subst h13
          have hB:=HB.out
          clear HB
          rw [if_pos rfl] at hB
          have HAF:=lh (after_any (some ⟨G,o,none⟩) ds n cap i w HL.out HDR.out hn (by omega))
          have hbd:=afterF_bd ds (n-i) i 0
          obtain⟨A,hA⟩:∃A,afterF ds (n-i) i 0=A:=⟨_,rfl⟩
          rw [hA] at hB HAF hbd
          by_cases hlt:(i:Int)<A
          ·rw [if_pos hlt] at hB
           obtain⟨p,rfl⟩:∃p:Nat,A=(p:Int):=Int.eq_ofNat_of_zero_le (by omega)
           rw [Int.toNat_natCast] at hB
           have HB:=lh hB
           have g4:(p:Int)≤(n:Int):=by omega
           have g5:(0:Int)≤(p:Int):=by omega
           clear hB hA
           by_cases hcp:cap=p
           ·have hpn:p=n:=by omega
            subst hpn
            subst hcp
            have hnil:ds.drop cap=[]:=by rw [List.drop_eq_nil_iff];have:=HL.out;omega
            have hB2:=HB.out
            rw [hnil] at hB2
            have HREC:=lh (IH.out (some ⟨G,o,none⟩) [] 0 0 rfl (by omega) (.inl rfl) (by omega) (by omega) (by unfold maxLen;omega))
            rw [hB2] at HREC
            clear hbd hB2 hnil
            go_upto_region 17 with (go_at_call 126;refine (HAF.out).mono ?_;rintro e w' ⟨rfl,hw'⟩;have hw2:=hw'.symm;clear hw';subst hw2)
            go_wp2_with (go_at_call 101;refine (HREC.out).mono ?_;rintro e w' ⟨rfl,hw'⟩;have hw2:=hw'.symm;clear hw';subst hw2)
            go_ret
            exact⟨rfl,rfl⟩
           ·have HREC:=lh (IH.out (some ⟨G,o+p,none⟩) (ds.drop p) (n-p) (cap-p) (by rw [List.length_drop,HL.out]) (by omega) (rd_drop HDR.out p) (by omega) (by omega) (by unfold maxLen;omega))
            rw [HB.out] at HREC
            clear hbd
            go_upto_region 17 with (go_at_call 126;refine (HAF.out).mono ?_;rintro e w' ⟨rfl,hw'⟩;have hw2:=hw'.symm;clear hw';subst hw2)
            go_wp2_with (go_at_call 101;refine (HREC.out).mono ?_;rintro e w' ⟨rfl,hw'⟩;have hw2:=hw'.symm;clear hw';subst hw2)
            go_ret
            exact⟨rfl,rfl⟩
          ·rw [if_neg hlt] at hB
           have HB:=lh hB
           clear hB hA hbd
           go_wp2_with (go_at_call 126;refine (HAF.out).mono ?_;rintro e w' ⟨rfl,hw'⟩;have hw2:=hw'.symm;clear hw';subst hw2)
           go_ret
           exact⟨ret_i HB.out,rfl⟩
         ·have hB:=HB.out
          rw [if_neg h13] at hB
          have c13:(R==13)=false:=by simpa using h13
          clear HB h13
          by_cases h0:R=0
          ·rw [if_neg (fun h=>h h0)] at hB
           have HB:=lh hB
           have c0:(R != 0)=false:=by simpa using h0
           clear hB h0
           go_wp2_with (fail)
           go_ret
           exact⟨ret_i HB.out,rfl⟩
          ·rw [if_pos h0] at hB
           have HB:=lh hB
           have c0:(R != 0)=true:=by simpa using h0
           clear hB h0
           go_wp2_with (fail)
           go_ret
           exact⟨ret_i HB.out,rfl⟩
      ·have h0:m=0:=by have:=HIM.out;omega
       have hiS:i=S:=by have:=HF.out;rw [h0] at this;exact this
       have hin:i=n:=by have:=HIM.out;omega
       have hB:=HB.out
       rw [if_pos (by omega)] at hB
       have HB2:=lh hB
       clear hB HB
       go_wp2_with (fail)
       go_ret
       exact⟨ret_i HB2.out,rfl⟩
theorem Base_any (want:Int) (a:Option Addr) (ds:List Int) (n cap:Nat) (w:World) (hl:ds.length=n) (hd:Rd .i8 w a ds) (hn:n≤2097152) (hc:n≤cap) (hm:cap≤maxLen) :
 Calls Tryz.prog 101 #[.slice a n cap,.int .i8 want] w fun e w'=>e=.returned (.int .u8 (baseI ds want))∧w'=w:=by
 subst hl
 exact Base_fuel want w (ds.length+1) a ds ds.length cap rfl (by omega) hd hn hc hm
end
end Go.Proofs.YtlbclfmbejjneaaGreatDoor
