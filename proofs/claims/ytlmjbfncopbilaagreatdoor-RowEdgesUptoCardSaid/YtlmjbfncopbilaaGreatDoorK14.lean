/- Part 14 (merged by a program): lemmas of no further condition than each states. -/
import Derived.Deep.CutBlock
import Derived.Maps.AppendAt
import Derived.Lib.SliceRun
import Derived.Test.YtlmjbfncopbilaaGreatDoorK13
namespace Go.Proofs.YtlmjbfncopbilaaGreatDoor
set_option linter.unusedVariables false
set_option linter.unusedSimpArgs false
section
open Go.RowKit
set_option maxHeartbeats 400000 in
theorem lknown_any (d:Int) (w:World):Calls Tryz.prog 153 #[.int .i8 d] w fun e w'=>e=.returned (.int .i8 (lkn d))∧w=w':=by
 go_enter Tryz.func153,Tryz.ntmps153
 go_wp2
 all_goals (go_ret;refine⟨ret_i ?_,rfl⟩;unfold lkn;first | rw [if_pos (by omega)] | rw [if_neg (by omega)])
set_option maxHeartbeats 400000 in
theorem lleft_any (d:Int) (w:World):Calls Tryz.prog 190 #[.int .i8 d] w fun e w'=>e=.returned (.bool (leftB d))∧w=w':=by
 go_enter Tryz.func190,Tryz.ntmps190
 go_wp2
 all_goals (go_ret;refine⟨ret_b ?_,rfl⟩;unfold leftB;rw [Bool.eq_iff_iff];simp;try omega)
set_option maxHeartbeats 400000 in
theorem lopens_any (d:Int) (w:World):Calls Tryz.prog 182 #[.int .i8 d] w fun e w'=>e=.returned (.bool (opensB d))∧w=w':=by
 go_enter Tryz.func182,Tryz.ntmps182
 go_wp2
 all_goals (go_ret;refine⟨ret_b ?_,rfl⟩;unfold opensB;rw [Bool.eq_iff_iff];simp;try omega)
set_option maxHeartbeats 1000000 in
theorem first_any (a:Option Addr) (ds:List Int) (n cap:Nat) (w:World) (hl:ds.length=n) (hd:Rd .i8 w a ds) (hn:n≤2097152) :
 Calls Tryz.prog 154 #[.slice a n cap] w fun e w'=>e=.returned (.int .i8 (firstI ds))∧w'=w:=by
 have HL:=lh hl
 have HC:=lh (fun i (hi:i<n)=>hd.at (Below.refl _ _) i (by omega))
 have HI:Hid (firstI ds=firstF ds n 0 0):=by rw [←hl];rfl
 clear hl hd
 go_enter Tryz.func154,Tryz.ntmps154
 go_wp2_with (fail)
 go_loopw [3,8] (fun dp c wx=>wx=w∧∃(i m deep:Nat),i+m=n∧dp=.int .i64 deep∧c=.int .i64 i∧deep≤i∧firstF ds m i deep=firstF ds n 0 0) (fun _ c _=>n-(intOf c).toNat)
 case atStart=>exact⟨rfl,0,n,0,by omega,rfl,rfl,by omega,rfl⟩
 case round =>
  obtain⟨hwx,i,m,deep,him,rfl,rfl,hdi,hF⟩:=hrel
  have hwx':=hwx.symm
  clear hwx
  subst hwx'
  have HIM:=lh him
  have HF:=lh hF
  clear him hF
  by_cases hi:i<n
  ·obtain⟨m,rfl⟩:∃q,m=q+1:=⟨m-1,by have:=HIM.out;omega⟩
   obtain⟨G,o,rfl,_,hGc⟩:=HC.out i hi
   have hst:∀d,lkn (ith ds i)=d→firstF ds (m+1) i deep=if opensB d=true then firstF ds m (i+1) (deep+1) else if d=22∧0<deep then firstF ds m (i+1) (deep-1) else if d=22∨d=10 then 13
    else if deep=0∧(d=0∨d=1∨d=2) then d else firstF ds m (i+1) deep:=fun d h=>by rw [firstF,h]
   generalize ith ds i=y at hGc hst
   obtain⟨d,hd⟩:∃d,lkn y=d:=⟨_,rfl⟩
   have hs:=hst d hd
   have HD:Hid (∀W,Calls Tryz.prog 153 #[.int .i8 y] W fun e w'=>e=.returned (.int .i8 d)∧W=w'):=fun W=>by rw [←hd];exact lknown_any y W
   clear hst hd
   by_cases ho:opensB d=true
   ·have HN:=lh (hs.trans (if_pos ho))
    clear hs
    go_wp2_with (first | (go_at_call 153;refine (HD.out _).mono ?_;rintro e w' ⟨rfl,rfl⟩) | (go_at_call 182;refine (lopens_any _ _).mono ?_;rintro e w' ⟨rfl,rfl⟩))
    go_roundw
    case rel=>exact⟨trivial,i+1,m,deep+1,by have:=HIM.out;omega,rfl,by go_num,by omega,by rw [←HF.out,HN.out]⟩
    case measure=>simp [intOf];omega
   ·rw [if_neg ho] at hs
    have hof:opensB d=false:=by simpa using ho
    clear ho
    by_cases h22:d=22
    ·subst h22
     by_cases hdp:0<deep
     ·have HN:=lh (hs.trans (if_pos ⟨rfl,hdp⟩))
      clear hs
      obtain⟨dp',rfl⟩:∃q,deep=q+1:=⟨deep-1,by omega⟩
      rw [Nat.add_sub_cancel] at HN
      go_wp2_with (first | (go_at_call 153;refine (HD.out _).mono ?_;rintro e w' ⟨rfl,rfl⟩) | (go_at_call 182;refine (lopens_any _ _).mono ?_;rintro e w' ⟨rfl,rfl⟩))
      go_roundw
      case rel=>exact⟨trivial,i+1,m,dp',by have:=HIM.out;omega,rfl,by go_num,by omega,by rw [←HF.out,HN.out]⟩
      case measure=>simp [intOf];omega
     ·have HN:=lh ((hs.trans (if_neg (fun h=>hdp h.2))).trans (if_pos (.inl rfl)))
      clear hs
      go_wp2_with (first | (go_at_call 153;refine (HD.out _).mono ?_;rintro e w' ⟨rfl,rfl⟩) | (go_at_call 182;refine (lopens_any _ _).mono ?_;rintro e w' ⟨rfl,rfl⟩))
      go_ret
      exact⟨ret_i (by rw [HI.out,←HF.out,HN.out]),rfl⟩
    ·have c22:(d==22)=false:=by simpa using h22
     rw [if_neg (fun h=>h22 h.1)] at hs
     by_cases h10:d=10
     ·subst h10
      have HN:=lh (hs.trans (if_pos (.inr rfl)))
      clear hs h22
      go_wp2_with (first | (go_at_call 153;refine (HD.out _).mono ?_;rintro e w' ⟨rfl,rfl⟩) | (go_at_call 182;refine (lopens_any _ _).mono ?_;rintro e w' ⟨rfl,rfl⟩))
      go_ret
      exact⟨ret_i (by rw [HI.out,←HF.out,HN.out]),rfl⟩
     ·have c10:(d==10)=false:=by simpa using h10
      rw [if_neg (fun h=>h.elim h22 h10)] at hs
      clear h22 h10
      by_cases h0:deep=0
      ·subst h0
       by_cases h3:d=0∨d=1∨d=2
       ·have HN:=lh (hs.trans (if_pos ⟨rfl,h3⟩))
        clear hs
        rcases h3 with h3 | h3 | h3
        all_goals
         subst h3
         go_wp2_with (first | (go_at_call 153;refine (HD.out _).mono ?_;rintro e w' ⟨rfl,rfl⟩) | (go_at_call 182;refine (lopens_any _ _).mono ?_;rintro e w' ⟨rfl,rfl⟩))
         go_ret
         exact⟨ret_i (by rw [HI.out,←HF.out,HN.out]),rfl⟩
       ·have HN:=lh (hs.trans (if_neg (fun h=>h3 h.2)))
        have c0:(d==0)=false:=by simp only [not_or] at h3;simpa using h3.1
        have c1:(d==1)=false:=by simp only [not_or] at h3;simpa using h3.2.1
        have c2:(d==2)=false:=by simp only [not_or] at h3;simpa using h3.2.2
        clear hs h3
        go_wp2_with (first | (go_at_call 153;refine (HD.out _).mono ?_;rintro e w' ⟨rfl,rfl⟩) | (go_at_call 182;refine (lopens_any _ _).mono ?_;rintro e w' ⟨rfl,rfl⟩))
        go_roundw
        case rel=>exact⟨trivial,i+1,m,0,by have:=HIM.out;omega,rfl,by go_num,by omega,by rw [←HF.out,HN.out]⟩
        case measure=>simp [intOf];omega
      ·have HN:=lh (hs.trans (if_neg (fun h=>h0 h.1)))
       have cd:((deep:Int)==0)=false:=by simp only [beq_eq_false_iff_ne];omega
       clear hs
       go_wp2_with (first | (go_at_call 153;refine (HD.out _).mono ?_;rintro e w' ⟨rfl,rfl⟩) | (go_at_call 182;refine (lopens_any _ _).mono ?_;rintro e w' ⟨rfl,rfl⟩))
       go_roundw
       case rel=>exact⟨trivial,i+1,m,deep,by have:=HIM.out;omega,rfl,by go_num,by omega,by rw [←HF.out,HN.out]⟩
       case measure=>simp [intOf];omega
  ·have h0:m=0:=by have:=HIM.out;omega
   have HZ:Hid ((13:Int)=firstF ds n 0 0):=by subst h0;exact HF
   go_wp2_with (fail)
   go_ret
   exact⟨ret_i (by rw [HI.out,←HZ.out]),rfl⟩
set_option maxHeartbeats 1000000 in
theorem after_any (a:Option Addr) (ds:List Int) (n cap fr:Nat) (w:World) (hl:ds.length=n) (hd:Rd .i8 w a ds) (hn:n≤2097152) (hfr:fr≤n) :
 Calls Tryz.prog 155 #[.slice a n cap,.int .i64 fr] w fun e w'=>e=.returned (.int .i64 (afterF ds (n-fr) fr 0))∧w'=w:=by
 have HL:=lh hl
 have HC:=lh (fun i (hi:i<n)=>hd.at (Below.refl _ _) i (by omega))
 clear hl hd
 go_enter Tryz.func155,Tryz.ntmps155
 go_wp2_with (fail)
 go_loopw [5,6] (fun dp c wx=>wx=w∧∃(i m deep:Nat),i+m=n∧dp=.int .i64 deep∧c=.int .i64 i∧deep≤i∧afterF ds m i deep=afterF ds (n-fr) fr 0) (fun _ c _=>n-(intOf c).toNat)
 case atStart=>exact⟨rfl,fr,n-fr,0,by omega,rfl,rfl,by omega,rfl⟩
 case round =>
  obtain⟨hwx,i,m,deep,him,rfl,rfl,hdi,hF⟩:=hrel
  have hwx':=hwx.symm
  clear hwx
  subst hwx'
  have HIM:=lh him
  have HF:=lh hF
  clear him hF
  by_cases hi:i<n
  ·obtain⟨m,rfl⟩:∃q,m=q+1:=⟨m-1,by have:=HIM.out;omega⟩
   obtain⟨G,o,rfl,_,hGc⟩:=HC.out i hi
   have hst:∀d,lkn (ith ds i)=d→afterF ds (m+1) i deep=if opensB d=true then afterF ds m (i+1) (deep+1) else if d=22∧deep=0 then (i:Int)+1 else if d=22 then afterF ds m (i+1) (deep-1)
    else if d=10 then -1 else afterF ds m (i+1) deep:=fun d h=>by rw [afterF,h]
   generalize ith ds i=y at hGc hst
   obtain⟨d,hd⟩:∃d,lkn y=d:=⟨_,rfl⟩
   have hs:=hst d hd
   have HD:Hid (∀W,Calls Tryz.prog 153 #[.int .i8 y] W fun e w'=>e=.returned (.int .i8 d)∧W=w'):=fun W=>by rw [←hd];exact lknown_any y W
   clear hst hd
   by_cases ho:opensB d=true
   ·have HN:=lh (hs.trans (if_pos ho))
    clear hs
    go_wp2_with (first | (go_at_call 153;refine (HD.out _).mono ?_;rintro e w' ⟨rfl,rfl⟩) | (go_at_call 182;refine (lopens_any _ _).mono ?_;rintro e w' ⟨rfl,rfl⟩))
    go_roundw
    case rel=>exact⟨trivial,i+1,m,deep+1,by have:=HIM.out;omega,rfl,by go_num,by omega,by rw [←HF.out,HN.out]⟩
    case measure=>simp [intOf];omega
   ·rw [if_neg ho] at hs
    have hof:opensB d=false:=by simpa using ho
    clear ho
    by_cases h22:d=22
    ·subst h22
     by_cases hdp:deep=0
     ·subst hdp
      have HN:=lh (hs.trans (if_pos ⟨rfl,rfl⟩))
      clear hs
      go_wp2_with (first | (go_at_call 153;refine (HD.out _).mono ?_;rintro e w' ⟨rfl,rfl⟩) | (go_at_call 182;refine (lopens_any _ _).mono ?_;rintro e w' ⟨rfl,rfl⟩))
      go_ret
      exact⟨ret_i (by rw [←HF.out,HN.out]),rfl⟩
     ·have HN:=lh ((hs.trans (if_neg (fun h=>hdp h.2))).trans (if_pos rfl))
      clear hs
      obtain⟨dp',rfl⟩:∃q,deep=q+1:=⟨deep-1,by omega⟩
      rw [Nat.add_sub_cancel] at HN
      have cd:(((dp'+1:Nat):Int)==0)=false:=by simp only [beq_eq_false_iff_ne];omega
      go_wp2_with (first | (go_at_call 153;refine (HD.out _).mono ?_;rintro e w' ⟨rfl,rfl⟩) | (go_at_call 182;refine (lopens_any _ _).mono ?_;rintro e w' ⟨rfl,rfl⟩))
      go_roundw
      case rel=>exact⟨trivial,i+1,m,dp',by have:=HIM.out;omega,rfl,by go_num,by omega,by rw [←HF.out,HN.out]⟩
      case measure=>simp [intOf];omega
    ·have c22:(d==22)=false:=by simpa using h22
     rw [if_neg (fun h=>h22 h.1),if_neg h22] at hs
     by_cases h10:d=10
     ·subst h10
      have HN:=lh (hs.trans (if_pos rfl))
      clear hs h22
      go_wp2_with (first | (go_at_call 153;refine (HD.out _).mono ?_;rintro e w' ⟨rfl,rfl⟩) | (go_at_call 182;refine (lopens_any _ _).mono ?_;rintro e w' ⟨rfl,rfl⟩))
      go_ret
      exact⟨ret_i (by rw [←HF.out,HN.out]),rfl⟩
     ·have c10:(d==10)=false:=by simpa using h10
      have HN:=lh (hs.trans (if_neg h10))
      clear h22 h10 hs
      go_wp2_with (first | (go_at_call 153;refine (HD.out _).mono ?_;rintro e w' ⟨rfl,rfl⟩) | (go_at_call 182;refine (lopens_any _ _).mono ?_;rintro e w' ⟨rfl,rfl⟩))
      go_roundw
      case rel=>exact⟨trivial,i+1,m,deep,by have:=HIM.out;omega,rfl,by go_num,by omega,by rw [←HF.out,HN.out]⟩
      case measure=>simp [intOf];omega
  ·have h0:m=0:=by have:=HIM.out;omega
   have HZ:Hid ((-1:Int)=afterF ds (n-fr) fr 0):=by subst h0;exact HF
   go_wp2_with (fail)
   go_ret
   exact⟨ret_i (by rw [←HZ.out]),rfl⟩
end
section
open Go.RowKit
theorem afterF_bd (ds:List Int):∀(m i deep:Nat),afterF ds m i deep = -1∨((i:Int)+1≤afterF ds m i deep∧afterF ds m i deep≤(i:Int)+m)
 | 0,i,deep=>.inl rfl
 | m+1,i,deep=>by
   have h1:=afterF_bd ds m (i+1) (deep+1)
   have h2:=afterF_bd ds m (i+1) (deep-1)
   have h3:=afterF_bd ds m (i+1) deep
   unfold afterF
   split
   ·rcases h1 with h | h
    ·exact .inl h
    ·exact .inr (by omega)
   ·split
    ·exact .inr (by omega)
    ·split
     ·rcases h2 with h | h
      ·exact .inl h
      ·exact .inr (by omega)
     ·split
      ·exact .inl rfl
      ·rcases h3 with h | h
       ·exact .inl h
       ·exact .inr (by omega)
theorem skipF_bd (ds:List Int):∀(m i:Nat),i≤skipF ds m i∧skipF ds m i≤i+m
 | 0,i=>⟨Nat.le_refl _,Nat.le_refl _⟩
 | m+1,i=>by
   have:=skipF_bd ds m (i+1)
   unfold skipF
   split <;> omega
theorem rd_drop {k:IntKind} {w:World} {b o:Nat} {xs:List Int} (h:Rd k w (some ⟨b,o,none⟩) xs) (i:Nat):Rd k w (some ⟨b,o+i,none⟩) (xs.drop i):=by
 rcases h with h | ⟨b',o',h1,h2,h3⟩
 ·subst h;exact .inl (by simp)
 ·cases h1
  refine .inr ⟨b,o+i,rfl,h2,fun j hj=>?_⟩
  rw [List.length_drop] at hj
  have:=h3 (i+j) (by omega)
  rw [show o+i+j=o+(i+j) by omega,this]
  congr 2
  simp [ith]
set_option maxRecDepth 100000 in
set_option maxHeartbeats 400000 in
theorem Base_fuel (want:Int) (w:World):∀(f:Nat) (a:Option Addr) (ds:List Int) (n cap:Nat),ds.length=n→n<f→Rd .i8 w a ds→n≤2097152→n≤cap→cap≤maxLen →
 Calls Tryz.prog 117 #[.slice a n cap,.int .i8 want] w fun e w'=>e=.returned (.int .u8 (baseF want f ds))∧w'=w
 | 0,_,_,_,_,_,h,_,_,_,_=>absurd h (by omega)
 | f+1,a,ds,n,cap,hl,hf,hd,hn,hc,hm=>by
   unfold maxLen at hm
   have ih:=Base_fuel want w f
   have IH:=lh ih
   clear ih
   have HL:=lh hl
   have HDR:=lh hd
   have HC:=lh (fun i (hi:i<n)=>hd.at (Below.refl _ _) i (by omega))
   obtain⟨V,hB⟩:∃V,baseF want (f+1) ds=V:=⟨_,rfl⟩
   rw [hB]
   rw [baseF,hl] at hB
   clear hl hd
   go_enter Tryz.func117,Tryz.ntmps117
   by_cases h1:want=1
   ·subst h1
    rw [if_pos rfl] at hB
    have HB:=lh hB
    clear hB
    go_wp2_with (fail)
    go_ret
    exact⟨ret_i HB.out,rfl⟩
   ·rw [if_neg h1] at hB
    have b1:(want==1)=false:=by simpa using h1
    clear h1
    by_cases h2:want=2
    ·subst h2
     rw [if_pos rfl] at hB
     have HB:=lh hB
     clear hB
     go_wp2_with (fail)
     go_ret
     exact⟨ret_i HB.out,rfl⟩
    ·rw [if_neg h2] at hB
     have b2:(want==2)=false:=by simpa using h2
     clear h2
     obtain⟨S,hS⟩:∃S,skipF ds n 0=S:=⟨_,rfl⟩
     have hSn:=(skipF_bd ds n 0).2
     rw [hS] at hB hSn
     have HB:=lh hB
     have HS:=lh hS
     clear hB hS
     go_wp2_with (fail)
     go_loopw [16] (fun c wx=>wx=w∧∃(i m:Nat),i+m=n∧c=.int .i64 i∧skipF ds m i=S) (fun c _=>n-(intOf c).toNat)
     case atStart=>exact⟨rfl,0,n,by omega,rfl,HS.out⟩
     case round =>
      obtain⟨hwx,i,m,him,rfl,hF⟩:=hrel
      have hwx':=hwx.symm
      clear hwx
      subst hwx'
      have HIM:=lh him
      have HF:=lh hF
      clear him hF
      by_cases hi:i<n
      ·obtain⟨m,rfl⟩:∃q,m=q+1:=⟨m-1,by have:=HIM.out;omega⟩
       obtain⟨G,o,rfl,hGl,hGc⟩:=HC.out i hi
       have hst:∀d,lkn (ith ds i)=d→skipF ds (m+1) i=if d=22 then skipF ds m (i+1) else i:=fun d h=>by rw [skipF,h]
       have hlk:∀d,lkn (ith ds i)=d→lkn (ith ds i)=d:=fun d h=>h
       generalize hy:ith ds i=y at hGc hst hlk
       obtain⟨d,hd⟩:∃d,lkn y=d:=⟨_,rfl⟩
       have hs:=hst d hd
       have HD:Hid (∀W,Calls Tryz.prog 153 #[.int .i8 y] W fun e w'=>e=.returned (.int .i8 d)∧W=w'):=fun W=>by rw [←hd];exact lknown_any y W
       have HYD:=lh (show lkn (ith ds i)=d by rw [hy];exact hd)
       clear hst hd hlk hy
       by_cases h22:d=22
       ·have HN:=lh (hs.trans (if_pos h22))
        subst h22
        clear hs
        go_wp2_with (go_at_call 153;refine (HD.out _).mono ?_;rintro e w' ⟨rfl,rfl⟩)
        go_roundw
        case rel=>exact⟨trivial,i+1,m,by have:=HIM.out;omega,by go_num,by rw [←HF.out,HN.out]⟩
        case measure=>simp [intOf];omega
       ·have hiS:i=S:=(hs.trans (if_neg h22)).symm.trans HF.out
        have c22:(d==22)=false:=by simpa using h22
        clear hs h22
        subst hiS
        have hB:=HB.out
        clear HB HS HF
        rw [if_neg (by omega),HYD.out] at hB
        by_cases h10:d=10
        ·rw [if_pos h10] at hB
         have HB:=lh hB
         subst h10
         clear hB
         go_wp2_with (go_at_call 153;refine (HD.out _).mono ?_;rintro e w' ⟨rfl,rfl⟩)
         go_ret
         exact⟨ret_i HB.out,rfl⟩
        ·rw [if_neg h10] at hB
         have c10:(d==10)=false:=by simpa using h10
         have HFI:=lh (first_any (some ⟨G,o+i,none⟩) (ds.drop i) (n-i) (cap-i) w (by rw [List.length_drop,HL.out]) (rd_drop HDR.out i) (by omega))
         obtain⟨R,hR⟩:∃R,firstI (ds.drop i)=R:=⟨_,rfl⟩
         rw [hR] at hB HFI
         have HB:=lh hB
         have g1:(i:Int)≤(n:Int):=by omega
         have g2:(n:Int)≤(cap:Int):=by omega
         have g3:¬ cap=i:=by omega
         clear hB hR h10
         go_upto_region 14 with (first | (go_at_call 153;refine (HD.out _).mono ?_;rintro e w' ⟨rfl,rfl⟩) | (go_at_call 154;refine (HFI.out).mono ?_;rintro e w' ⟨rfl,hw'⟩;have hw2:=hw'.symm;clear hw';subst hw2))
         by_cases h13:R=13
         ·subst h13
          have hB:=HB.out
          clear HB
          rw [if_pos rfl] at hB
          have HAF:=lh (after_any (some ⟨G,o,none⟩) ds n cap i w HL.out HDR.out hn (by omega))
          have hbd:=afterF_bd ds (n-i) i 0
          obtain⟨A,hA⟩:∃A,afterF ds (n-i) i 0=A:=⟨_,rfl⟩
          rw [hA] at hB HAF hbd
          by_cases hlt:(i:Int)<A
          ·rw [if_pos hlt] at hB
           obtain⟨p,rfl⟩:∃p:Nat,A=(p:Int):=Int.eq_ofNat_of_zero_le (by omega)
           rw [Int.toNat_natCast] at hB
           have HB:=lh hB
           have g4:(p:Int)≤(n:Int):=by omega
           have g5:(0:Int)≤(p:Int):=by omega
           clear hB hA
           by_cases hcp:cap=p
           ·have hpn:p=n:=by omega
            subst hpn
            subst hcp
            have hnil:ds.drop cap=[]:=by rw [List.drop_eq_nil_iff];have:=HL.out;omega
            have hB2:=HB.out
            rw [hnil] at hB2
            have HREC:=lh (IH.out (some ⟨G,o,none⟩) [] 0 0 rfl (by omega) (.inl rfl) (by omega) (by omega) (by unfold maxLen;omega))
            rw [hB2] at HREC
            clear hbd hB2 hnil
            go_upto_region 17 with (go_at_call 155;refine (HAF.out).mono ?_;rintro e w' ⟨rfl,hw'⟩;have hw2:=hw'.symm;clear hw';subst hw2)
            go_wp2_with (go_at_call 117;refine (HREC.out).mono ?_;rintro e w' ⟨rfl,hw'⟩;have hw2:=hw'.symm;clear hw';subst hw2)
            go_ret
            exact⟨rfl,rfl⟩
           ·have HREC:=lh (IH.out (some ⟨G,o+p,none⟩) (ds.drop p) (n-p) (cap-p) (by rw [List.length_drop,HL.out]) (by omega) (rd_drop HDR.out p) (by omega) (by omega) (by unfold maxLen;omega))
            rw [HB.out] at HREC
            clear hbd
            go_upto_region 17 with (go_at_call 155;refine (HAF.out).mono ?_;rintro e w' ⟨rfl,hw'⟩;have hw2:=hw'.symm;clear hw';subst hw2)
            go_wp2_with (go_at_call 117;refine (HREC.out).mono ?_;rintro e w' ⟨rfl,hw'⟩;have hw2:=hw'.symm;clear hw';subst hw2)
            go_ret
            exact⟨rfl,rfl⟩
          ·rw [if_neg hlt] at hB
           have HB:=lh hB
           clear hB hA hbd
           go_wp2_with (go_at_call 155;refine (HAF.out).mono ?_;rintro e w' ⟨rfl,hw'⟩;have hw2:=hw'.symm;clear hw';subst hw2)
           go_ret
           exact⟨ret_i HB.out,rfl⟩
         ·have hB:=HB.out
          rw [if_neg h13] at hB
          have c13:(R==13)=false:=by simpa using h13
          clear HB h13
          by_cases h0:R=0
          ·rw [if_neg (fun h=>h h0)] at hB
           have HB:=lh hB
           have c0:(R != 0)=false:=by simpa using h0
           clear hB h0
           go_wp2_with (fail)
           go_ret
           exact⟨ret_i HB.out,rfl⟩
          ·rw [if_pos h0] at hB
           have HB:=lh hB
           have c0:(R != 0)=true:=by simpa using h0
           clear hB h0
           go_wp2_with (fail)
           go_ret
           exact⟨ret_i HB.out,rfl⟩
      ·have h0:m=0:=by have:=HIM.out;omega
       have hiS:i=S:=by have:=HF.out;rw [h0] at this;exact this
       have hin:i=n:=by have:=HIM.out;omega
       have hB:=HB.out
       rw [if_pos (by omega)] at hB
       have HB2:=lh hB
       clear hB HB
       go_wp2_with (fail)
       go_ret
       exact⟨ret_i HB2.out,rfl⟩
theorem Base_any (want:Int) (a:Option Addr) (ds:List Int) (n cap:Nat) (w:World) (hl:ds.length=n) (hd:Rd .i8 w a ds) (hn:n≤2097152) (hc:n≤cap) (hm:cap≤maxLen) :
 Calls Tryz.prog 117 #[.slice a n cap,.int .i8 want] w fun e w'=>e=.returned (.int .u8 (baseI ds want))∧w'=w:=by
 subst hl
 exact Base_fuel want w (ds.length+1) a ds ds.length cap rfl (by omega) hd hn hc hm
end
section
open Go.RowKit
theorem Tryz.info_int:(Tryz.prog.info? 3).map (fun i=>(i.zero,i.size,i.bytes))=some (some (.int .i64 0),1,8):=by kernel_rfl
def LPairsPost (ds:List Int) (n:Nat) (w:World) (e:Ending) (w':World):Prop :=
 e=.returned (.slice (some ⟨w.heap.size,0,none⟩) n n)∧(pairsI ds).length=n∧OutAt .i64 3 w' w.heap.size (some ⟨w.heap.size,0,none⟩) n (pairsI ds)∧Below w.heap.size w w'
theorem rep_zero (n i:Nat) (h:i<n):ith (List.replicate n 0) i=0:=by
 unfold ith;rw [List.getD_eq_getElem?_getD];simp [h]
theorem lp_kept {k:IntKind} {e base cap B:Nat} {w2 w6:World} {ob:Obj} {out:List Int} {row:Option Nat} (h:OutAt k e w2 base (some ⟨B,0,none⟩) cap out) (hg:(w2.alloc ob).grownBy w6 row) (hr:∀j,row=some j→B<j):OutAt k e w6 base (some ⟨B,0,none⟩) cap out:=by
 refine World.ownsRow.kept (World.ownsRow.alloc h ob) hg (.inr fun e=>?_)
 have:=hr B e.symm
 omega
theorem lp_two {w w2:World} {t GO oc n L:Nat} {opn:List Nat} {out:List Int} (hO:OutAt .i64 t w2 w.heap.size (some ⟨w.heap.size,0,none⟩) n out)
 (hown:w2.ownsRow (w.heap.size+1) t 1 (.slice (some ⟨GO,0,none⟩) opn.length oc) opn.length (nats opn)) (hb:Below w.heap.size w w2) (hL:opn.length=L+1) (hs:w.heap.size+1≤w2.heap.size) (i j:Nat) :
 ((w2.setCell ⟨w.heap.size,i,none⟩ (.int .i64 j)).setCell ⟨w.heap.size,j,none⟩ (.int .i64 i)).drew.ownsRow (w.heap.size+1) t 1 (.slice (some ⟨GO,0,none⟩) L oc) (opn.take L).length (nats (opn.take L)) ∧
 OutAt .i64 t ((w2.setCell ⟨w.heap.size,i,none⟩ (.int .i64 j)).setCell ⟨w.heap.size,j,none⟩ (.int .i64 i)).drew w.heap.size (some ⟨w.heap.size,0,none⟩) n ((out.set i (j:Int)).set j (i:Int)) ∧
 w.heap.size+1≤((w2.setCell ⟨w.heap.size,i,none⟩ (.int .i64 j)).setCell ⟨w.heap.size,j,none⟩ (.int .i64 i)).drew.heap.size ∧
 Below w.heap.size w ((w2.setCell ⟨w.heap.size,i,none⟩ (.int .i64 j)).setCell ⟨w.heap.size,j,none⟩ (.int .i64 i)).drew:=by
 have h1:=ownsRow_setCell_below (ownsRow_setCell_below hown (show (⟨w.heap.size,i,none⟩:Addr).block<w.heap.size+1 from Nat.lt_succ_self _) (.int .i64 j)) (show (⟨w.heap.size,j,none⟩:Addr).block<w.heap.size+1 from Nat.lt_succ_self _) (.int .i64 i)
 refine⟨?_,(hO.set i j).set j i,by simpa [World.setCell] using hs,((hb.setCell (p:=⟨w.heap.size,i,none⟩) (Nat.le_refl _) _).setCell (p:=⟨w.heap.size,j,none⟩) (Nat.le_refl _) _).drew⟩
 have h2:=ownsRow_take (k:=L) h1 (by omega) (by omega) (by unfold nats;simp)
 have e1:(opn.take L).length=L:=by rw [List.length_take];omega
 have e2:nats (opn.take L)=(nats opn).take (L*1):=by unfold nats;rw [List.map_take,Nat.mul_one]
 rw [e1,e2]
 exact h2
set_option maxRecDepth 100000 in
set_option maxHeartbeats 400000 in
theorem LPairs_any (a:Option Addr) (ds:List Int) (n cap:Nat) (w:World) (hl:ds.length=n) (hd:Rd .i8 w a ds) (hn:n≤2097152) :
 Calls Tryz.prog 189 #[.slice a n cap] w (LPairsPost ds n w):=by
 obtain⟨i3,hi3,hz3,ha3,hb3⟩:=info_parts (Tryz.info_int)
 have HL:=lh hl
 have HI:Hid (pairsI ds=pairsF ds n 0 [] (List.replicate n 0)):=by rw [←hl];rfl
 clear hl
 go_enter Tryz.func189,Tryz.ntmps189
 have hmk:=run_make_row (P:=Tryz.prog) 93 3 i3 (.int .i64 0) Tryz.underlying93 hi3 hz3 ha3 rfl .i64 .i64 n (by rw [hb3];omega) (by omega)
 go_wp2_with (fail)
 clear hmk
 have hrow0:=World.rowIs_made w (.int .i64 0) n 3
 have hO0:OutAt .i64 3 (w.alloc (.cells (madeCells #[.int .i64 0] n) 3)) w.heap.size (some ⟨w.heap.size,0,none⟩) n (List.replicate n 0) :=
  out_of_row (hrow0.congr fun i hi=>by rw [rep_zero n i hi]) (by simp) (Nat.le_refl _) (by unfold maxLen;omega)
 have hb0:=(Below.refl w.heap.size w).alloc (Nat.le_refl _) (.cells (madeCells #[.int .i64 0] n) 3)
 clear hrow0
 go_loopw [4,13] (fun ov c wx=>∃(i m:Nat) (opn:List Nat) (out:List Int),i+m=n∧c=.int .i64 i∧wx.ownsRow (w.heap.size+1) 3 1 ov opn.length (nats opn) ∧
  out.length=n∧OutAt .i64 3 wx w.heap.size (some ⟨w.heap.size,0,none⟩) n out∧(∀p∈opn,p<i)∧opn.length≤i∧w.heap.size+1≤wx.heap.size∧Below w.heap.size w wx∧pairsF ds m i opn out=pairsI ds) (fun _ c _=>n-(intOf c).toNat)
 case atStart=>exact⟨0,n,[],List.replicate n 0,by omega,rfl,World.ownsRow_nil _ _ _ _,by simp,hO0,by simp,by simp,by simp,hb0,HI.out.symm⟩
 case round =>
  obtain⟨i,m,opn,out,him,rfl,hown,hol,hO,hlt',hoi,hsz,hbel,hF⟩:=hrel
  have HIM:=lh him
  have HF:=lh hF
  have HOL:=lh hol
  have HLT:=lh hlt'
  clear him hF hol hlt' hO0 hb0
  obtain⟨oa,oc,hov,hoc,hocm⟩:=own_slice hown
  subst hov
  by_cases hi:i<n
  ·obtain⟨m,rfl⟩:∃q,m=q+1:=⟨m-1,by have:=HIM.out;omega⟩
   obtain⟨G,o,rfl,hGl,hGc⟩:=hd.at hbel i (by have:=HL.out;omega)
   obtain⟨G',hG',_,_,hXc,hXf,_,_⟩:=hO.at i (by have:=HOL.out;omega)
   cases hG'
   have hst:∀d,lkn (ith ds i)=d→pairsF ds (m+1) i opn out=if opensB d=true then pairsF ds m (i+1) (opn++[i]) (out.set i (-1)) else if d=10 then pairsF ds m (i+1) [] (out.set i (-1))
    else if d=22∧0<opn.length then pairsF ds m (i+1) (opn.take (opn.length-1)) (((out.set i (-1)).set i (opn.getD (opn.length-1) 0)).set (opn.getD (opn.length-1) 0) i) else pairsF ds m (i+1) opn (out.set i (-1)):=fun d h=>by rw [pairsF,h]
   generalize ith ds i=y at hGc hst
   obtain⟨d,hd'⟩:∃d,lkn y=d:=⟨_,rfl⟩
   have hs:=hst d hd'
   have HD:Hid (∀W,Calls Tryz.prog 153 #[.int .i8 y] W fun e w'=>e=.returned (.int .i8 d)∧W=w'):=fun W=>by rw [←hd'];exact lknown_any y W
   clear hst hd'
   go_upto_region 7 with (fail)
   obtain⟨w2,hw2⟩:∃w2,w2=wr.setCell ⟨w.heap.size,i,none⟩ (.int .i64 (-1)):=⟨_,rfl⟩
   rw [←hw2]
   have hO2:OutAt .i64 3 w2 w.heap.size (some ⟨w.heap.size,0,none⟩) n (out.set i (-1)):=by rw [hw2];exact hO.set i (-1)
   have hb2:Below w.heap.size w w2:=by rw [hw2];exact hbel.setCell (p:=⟨w.heap.size,i,none⟩) (Nat.le_refl _) (.int .i64 (-1))
   have hown2:w2.ownsRow (w.heap.size+1) 3 1 (.slice oa opn.length oc) opn.length (nats opn):=by
    rw [hw2];exact ownsRow_setCell_below hown (show (⟨w.heap.size,i,none⟩:Addr).block<w.heap.size+1 from Nat.lt_succ_self _) (.int .i64 (-1))
   have hsz2:w.heap.size+1≤w2.heap.size:=by rw [hw2];simpa [World.setCell] using hsz
   have hGc2:w2.cell? ⟨G,o+i,none⟩=some (.int .i8 y):=by
    rw [hw2]
    exact (World.cell?_of_block (heap_setCell_other wr ⟨w.heap.size,i,none⟩ G (.int .i64 (-1)) (by show G≠w.heap.size;omega))).trans hGc
   clear hO hbel hown hsz hGc hXc hXf hw2
   go_upto_region 8 with (go_at_call 153;refine (HD.out _).mono ?_;rintro e w' ⟨rfl,hw'⟩;subst hw')
   have hlen2:(out.set i (-1)).length=n:=by rw [List.length_set];exact HOL.out
   have HL2:=lh hlen2
   have HO2:=lh hO2
   have HB2:=lh hb2
   have HOW2:=lh hown2
   clear hlen2 hO2 hb2 hown2 hGc2
   by_cases ho:opensB d=true
   ·have HN:=lh (hs.trans (if_pos ho))
    clear hs
    go_wp2_with (first | (go_at_call 182;refine (lopens_any _ _).mono ?_;rintro e w' ⟨rfl,hw'⟩;subst hw') | (at_builtin;refine wpList_append_own _ rfl (.tmp 27) (.tmp 29) 93 rfl (w.heap.size+1) 3 i3 (.int .i64 0) 1 8 Tryz.underlying93 hi3 hz3 ha3 hb3 rfl (by decide) (.slice oa opn.length oc) opn.length _ rfl (HOW2.out.alloc _) ⟨w2.heap.size,0,none⟩ 1 1 [.int .i64 i] rfl rfl (cell_one_new _ _ _) (by simp [Value.oneCell']) (by unfold maxLen;omega) (by omega) (by simp;omega) ?_;intro v6 w6 hown6 hg6 _))
    have hO6:=lp_kept HO2.out hg6 (fun k hk=>by have:=(HOW2.out.lt k hk).1;omega)
    have hb6:=(HB2.out.alloc HB2.out.size _).grown hg6 (by simp;omega) (fun k hk=>by have:=(HOW2.out.lt k hk).1;omega)
    have hs6:w.heap.size+1≤w6.heap.size:=by have:=hg6.size;rw [World.size_alloc] at this;omega
    clear hg6
    go_roundw
    case rel=>exact⟨i+1,m,opn++[i],out.set i (-1),by have:=HIM.out;omega,by go_num,by rw [nats_snoc,List.length_append,List.length_singleton];exact hown6,HL2.out,hO6,fun p hp=>by
     rw [List.mem_append,List.mem_singleton] at hp
     rcases hp with hp | hp
     ·have:=HLT.out p hp;omega
     ·omega,by rw [List.length_append,List.length_singleton];omega,hs6,hb6,by rw [←HF.out,HN.out]⟩
    case measure=>simp [intOf];omega
   ·rw [if_neg ho] at hs
    have hof:opensB d=false:=by simpa using ho
    clear ho
    by_cases h10:d=10
    ·have HN:=lh (hs.trans (if_pos h10))
     subst h10
     clear hs
     go_wp2_with (go_at_call 182;refine (lopens_any _ _).mono ?_;rintro e w' ⟨rfl,hw'⟩;subst hw')
     go_roundw
     case rel=>exact⟨i+1,m,[],out.set i (-1),by have:=HIM.out;omega,by go_num,World.ownsRow_nil _ _ _ _,HL2.out,HO2.out,by simp,by simp,hsz2,HB2.out,by rw [←HF.out,HN.out]⟩
     case measure=>simp [intOf];omega
    ·rw [if_neg h10] at hs
     have c10:(d==10)=false:=by simpa using h10
     clear h10
     by_cases h22:d=22∧0<opn.length
     ·have HN:=lh (hs.trans (if_pos h22))
      obtain⟨rfl,hlen⟩:=h22
      clear hs
      obtain⟨L,hL⟩:∃L,opn.length=L+1:=⟨opn.length-1,by omega⟩
      obtain⟨GO,hoa,hGO1,hGO2,hcells⟩:=own_cells HOW2.out hlen
      subst hoa
      obtain⟨j,hj⟩:∃j,opn.getD L 0=j:=⟨_,rfl⟩
      have hoc2:=hcells L (by omega)
      have hnl:(nats opn)[L]? = some (.int .i64 (j:Int)):=by
       unfold nats
       rw [List.getElem?_map,List.getElem?_eq_getElem (by omega),←hj,List.getD_eq_getElem?_getD,List.getElem?_eq_getElem (by omega)]
       rfl
      rw [hnl] at hoc2
      have hjm:j∈opn:=by rw [←hj,List.getD_eq_getElem?_getD,List.getElem?_eq_getElem (by omega)];exact List.getElem_mem _
      have hji:j<i:=HLT.out j hjm
      obtain⟨G1,hG1,_,_,hXi,hFi,_,_⟩:=HO2.out.at i (by have:=HL2.out;omega)
      cases hG1
      obtain⟨G1,hG1,_,_,hXj,hFj,_,_⟩:=HO2.out.at j (by have:=HL2.out;omega)
      cases hG1
      rw [hL,Nat.add_sub_cancel,hj] at HN
      have HLL:=lh hL
      clear hcells hnl hjm hj
      generalize ith (out.set i (-1)) i=vi at hXi
      generalize ith (out.set i (-1)) j=vj at hXj
      go_upto_region 13 with (go_at_call 182;refine (lopens_any _ _).mono ?_;rintro e w' ⟨rfl,hw'⟩;subst hw')
      go_cut [7] (fun t wx=>t=.int .i64 L∧wx=w2)
      case first =>
       clear hXi hXj hFi hFj hoc2
       go_wp2_with (fail)
       all_goals (go_meet;exact⟨by go_num,rfl⟩)
      case rest =>
       obtain⟨rfl,hwx⟩:=hcut
       have hwx':=hwx.symm
       clear hwx
       subst hwx'
       have gL0:(0:Int)≤(L:Int):=by omega
       have gL1:(L:Int)<(opn.length:Int):=by omega
       have gL2:(L:Int)<(L:Int)+1:=by omega
       have gj0:(0:Int)≤(j:Int):=by omega
       have gj1:(j:Int)<(n:Int):=by omega
       have gi0:(0:Int)≤(i:Int):=by omega
       have gi1:(i:Int)<(n:Int):=by omega
       have hne1:GO≠w.heap.size:=by omega
       have hne2:w.heap.size≠GO:=by omega
       have hij1:i≠j:=by omega
       have hij2:j≠i:=by omega
       have hLc:(L:Int)≤(oc:Int):=by omega
       clear hL
       go_upto_region 14 with (fail)
       go_region_held3 (fun w'=>w'.cell? ⟨GO,L,none⟩=some (.int .i64 j)) (go_keep) (fail)
       all_goals
        have HO6:=lh (lp_two HO2.out HOW2.out HB2.out HLL.out hsz2 i j)
        clear hXi hXj hFi hFj hoc2
        go_wp2_with (fail)
        go_roundw
        case rel=>exact⟨i+1,m,opn.take L,((out.set i (-1)).set i (j:Int)).set j (i:Int),by have:=HIM.out;omega,by go_num,HO6.out.1,by rw [List.length_set,List.length_set];exact HL2.out,HO6.out.2.1,fun p hp=>by have:=HLT.out p (List.mem_of_mem_take hp);omega,by rw [List.length_take];omega,HO6.out.2.2.1,HO6.out.2.2.2,by rw [←HF.out,HN.out]⟩
        case measure=>simp [intOf];omega
     ·have HN:=lh (hs.trans (if_neg h22))
      have hkeep:∀p∈opn,p<i+1:=fun p hp=>by have:=HLT.out p hp;omega
      have HKP:=lh hkeep
      clear hs hkeep
      by_cases h2:d=22
      ·have hl0:¬ 0<opn.length:=fun h=>h22 ⟨h2,h⟩
       subst h2
       clear h22
       go_wp2_with (go_at_call 182;refine (lopens_any _ _).mono ?_;rintro e w' ⟨rfl,hw'⟩;subst hw')
       go_roundw
       case rel=>exact⟨i+1,m,opn,out.set i (-1),by have:=HIM.out;omega,by go_num,HOW2.out,HL2.out,HO2.out,HKP.out,by omega,hsz2,HB2.out,by rw [←HF.out,HN.out]⟩
       case measure=>simp [intOf];omega
      ·have c22:(d==22)=false:=by simpa using h2
       clear h22 h2
       go_wp2_with (go_at_call 182;refine (lopens_any _ _).mono ?_;rintro e w' ⟨rfl,hw'⟩;subst hw')
       go_roundw
       case rel=>exact⟨i+1,m,opn,out.set i (-1),by have:=HIM.out;omega,by go_num,HOW2.out,HL2.out,HO2.out,HKP.out,by omega,hsz2,HB2.out,by rw [←HF.out,HN.out]⟩
       case measure=>simp [intOf];omega
  ·have hm0:m=0:=by have:=HIM.out;omega
   have HZ:Hid (out=pairsI ds):=by subst hm0;exact HF
   go_wp2_with (fail)
   go_ret
   exact⟨rfl,by rw [←HZ.out];exact HOL.out,by rw [←HZ.out];exact hO,hbel⟩
end
end Go.Proofs.YtlmjbfncopbilaaGreatDoor
