/- Part 16 (merged by a program): lemmas of no further condition than each states. -/
import Derived.ScopeJumps
import Derived.WalkMore
import Derived.Test.YtlbclfmbejjneaaGreatDoorR04
namespace Go.Proofs.YtlbclfmbejjneaaGreatDoor
set_option linter.unusedVariables false
set_option linter.unusedSimpArgs false
section
open Go.RowKit
theorem wk_trans {w w1 w2:World} {row:Option Nat} (h1:w.grownBy w1 row) (h2:w1.grownBy w2 row):w.grownBy w2 row :=
 ⟨h2.os.trans h1.os,h2.tape.trans h1.tape,h2.output.trans h1.output,Nat.le_trans h1.size h2.size,fun k hk hne=>(h2.block k (Nat.lt_of_lt_of_le hk h1.size) hne).trans (h1.block k hk hne)⟩
theorem wk_refl (w:World) (row:Option Nat):w.grownBy w row:=⟨rfl,rfl,rfl,Nat.le_refl _,fun _ _ _=>rfl⟩
def RulePost (ys:List Int) (n base:Nat) (ao:Option Addr) (cap:Nat) (w:World) (e:Ending) (w':World):Prop :=
 e=.returned (.tuple #[])∧ys.length=n∧OutAt .i8 22 w' base ao cap ys∧w.grownBy w' (Value.slice ao n cap).ownBlock
set_option maxHeartbeats 1000000 in
theorem letters_any (ao:Option Addr) (cap base n:Nat) (sos:Int) (xs:List Int) (w:World) (hl:xs.length=n) (hO:OutAt .i8 22 w base ao cap xs) (hn:n≤2097152) :
 Calls Tryz.prog 186 #[.slice ao n cap,.int .i8 sos] w (RulePost (lettersF n 0 xs) n base ao cap w):=by
 have HL:=lh hl
 clear hl
 go_enter Tryz.func186,Tryz.ntmps186
 go_wp2_with (fail)
 go_loopw [8] (fun c wx=>∃(i m:Nat) (zs:List Int),i+m=n∧c=.int .i64 i∧zs.length=n∧OutAt .i8 22 wx base ao cap zs∧w.grownBy wx (Value.slice ao n cap).ownBlock∧lettersF m i zs=lettersF n 0 xs) (fun c _=>n-(intOf c).toNat)
 case atStart=>exact⟨0,n,xs,by omega,rfl,HL.out,hO,wk_refl _ _,rfl⟩
 case round =>
  obtain⟨i,m,zs,him,rfl,hzl,hZ,hg,hF⟩:=hrel
  have HIM:=lh him
  have HZL:=lh hzl
  have HF:=lh hF
  clear him hzl hF hO
  by_cases hi:i<n
  ·obtain⟨m,rfl⟩:∃q,m=q+1:=⟨m-1,by have:=HIM.out;omega⟩
   obtain⟨G,rfl,hGb,hGl,hGc,hGf,_,_⟩:=hZ.at i (by have:=HZL.out;omega)
   have hst:∀y,ith zs i=y→lettersF (m+1) i zs=if y=2 then lettersF m (i+1) (zs.set i 1) else lettersF m (i+1) zs:=fun y hy=>by rw [lettersF,hy]
   generalize hy:ith zs i=y at hGc
   have HN:=lh (hst y hy)
   clear hst hy
   by_cases h2:y=2
   ·have hb:(y==2)=true:=by simpa using h2
    have HN2:=lh (HN.out.trans (if_pos h2))
    clear h2
    have HST:=lh (And.intro (hZ.set i 1) (wk_trans hg (World.ownsRow.stored hZ i (.int .i8 1)).2))
    clear hZ hg
    go_wp2_with (fail)
    all_goals
     go_roundw
     case rel=>exact⟨i+1,m,zs.set i 1,by have:=HIM.out;omega,by go_num,by rw [List.length_set];exact HZL.out,HST.out.1,HST.out.2,by rw [←HF.out,HN2.out]⟩
     case measure=>simp [intOf];omega
   ·have hb:(y==2)=false:=by simpa using h2
    have HN2:=lh (HN.out.trans (if_neg h2))
    clear h2
    go_wp2_with (fail)
    all_goals
     go_roundw
     case rel=>exact⟨i+1,m,zs,by have:=HIM.out;omega,by go_num,HZL.out,hZ,hg,by rw [←HF.out,HN2.out]⟩
     case measure=>simp [intOf];omega
  ·have h0:m=0:=by have:=HIM.out;omega
   have HZE:Hid (zs=lettersF n 0 xs):=by subst h0;exact HF
   go_wp2_with (fail)
   go_end0
   exact⟨rfl,by rw [←HZE.out];exact HZL.out,by rw [←HZE.out];exact hZ,hg⟩
set_option maxHeartbeats 1000000 in
theorem others_any (ao:Option Addr) (cap base n:Nat) (sos:Int) (xs:List Int) (w:World) (hl:xs.length=n) (hO:OutAt .i8 22 w base ao cap xs) (hn:n≤2097152) :
 Calls Tryz.prog 189 #[.slice ao n cap,.int .i8 sos] w (RulePost (othersF n 0 xs) n base ao cap w):=by
 have HL:=lh hl
 clear hl
 go_enter Tryz.func189,Tryz.ntmps189
 go_wp2_with (fail)
 go_loopw [8] (fun c wx=>∃(i m:Nat) (zs:List Int),i+m=n∧c=.int .i64 i∧zs.length=n∧OutAt .i8 22 wx base ao cap zs∧w.grownBy wx (Value.slice ao n cap).ownBlock∧othersF m i zs=othersF n 0 xs) (fun c _=>n-(intOf c).toNat)
 case atStart=>exact⟨0,n,xs,by omega,rfl,HL.out,hO,wk_refl _ _,rfl⟩
 case round =>
  obtain⟨i,m,zs,him,rfl,hzl,hZ,hg,hF⟩:=hrel
  have HIM:=lh him
  have HZL:=lh hzl
  have HF:=lh hF
  clear him hzl hF hO
  by_cases hi:i<n
  ·obtain⟨m,rfl⟩:∃q,m=q+1:=⟨m-1,by have:=HIM.out;omega⟩
   obtain⟨G,rfl,hGb,hGl,hGc,hGf,_,_⟩:=hZ.at i (by have:=HZL.out;omega)
   have hst:∀y,ith zs i=y→othersF (m+1) i zs=if y=4∨y=5∨y=7 then othersF m (i+1) (zs.set i 13) else othersF m (i+1) zs:=fun y hy=>by rw [othersF,hy]
   generalize hy:ith zs i=y at hGc
   have HN:=lh (hst y hy)
   clear hst hy
   by_cases h2:y=4∨y=5∨y=7
   ·have HN2:=lh (HN.out.trans (if_pos h2))
    rcases h2 with h2 | h2 | h2
    ·subst h2
     have HST:=lh (And.intro (hZ.set i 13) (wk_trans hg (World.ownsRow.stored hZ i (.int .i8 13)).2))
     clear hZ hg
     go_wp2_with (fail)
     all_goals
      go_roundw
      case rel=>exact⟨i+1,m,zs.set i 13,by have:=HIM.out;omega,by go_num,by rw [List.length_set];exact HZL.out,HST.out.1,HST.out.2,by rw [←HF.out,HN2.out]⟩
      case measure=>simp [intOf];omega
    ·subst h2
     have HST:=lh (And.intro (hZ.set i 13) (wk_trans hg (World.ownsRow.stored hZ i (.int .i8 13)).2))
     clear hZ hg
     go_wp2_with (fail)
     all_goals
      go_roundw
      case rel=>exact⟨i+1,m,zs.set i 13,by have:=HIM.out;omega,by go_num,by rw [List.length_set];exact HZL.out,HST.out.1,HST.out.2,by rw [←HF.out,HN2.out]⟩
      case measure=>simp [intOf];omega
    ·subst h2
     have HST:=lh (And.intro (hZ.set i 13) (wk_trans hg (World.ownsRow.stored hZ i (.int .i8 13)).2))
     clear hZ hg
     go_wp2_with (fail)
     all_goals
      go_roundw
      case rel=>exact⟨i+1,m,zs.set i 13,by have:=HIM.out;omega,by go_num,by rw [List.length_set];exact HZL.out,HST.out.1,HST.out.2,by rw [←HF.out,HN2.out]⟩
      case measure=>simp [intOf];omega
   ·have HN2:=lh (HN.out.trans (if_neg h2))
    have b4:(y==4)=false:=by simp only [not_or] at h2;simpa using h2.1
    have b5:(y==5)=false:=by simp only [not_or] at h2;simpa using h2.2.1
    have b7:(y==7)=false:=by simp only [not_or] at h2;simpa using h2.2.2
    clear h2
    go_wp2_with (fail)
    all_goals
     go_roundw
     case rel=>exact⟨i+1,m,zs,by have:=HIM.out;omega,by go_num,HZL.out,hZ,hg,by rw [←HF.out,HN2.out]⟩
     case measure=>simp [intOf];omega
  ·have h0:m=0:=by have:=HIM.out;omega
   have HZE:Hid (zs=othersF n 0 xs):=by subst h0;exact HF
   go_wp2_with (fail)
   go_end0
   exact⟨rfl,by rw [←HZE.out];exact HZL.out,by rw [←HZE.out];exact hZ,hg⟩
set_option maxHeartbeats 1000000 in
theorem digits_any (ao:Option Addr) (cap base n:Nat) (sos:Int) (xs:List Int) (w:World) (hl:xs.length=n) (hO:OutAt .i8 22 w base ao cap xs) (hn:n≤2097152) :
 Calls Tryz.prog 190 #[.slice ao n cap,.int .i8 sos] w (RulePost (digitsF n 0 sos xs) n base ao cap w):=by
 have HL:=lh hl
 clear hl
 go_enter Tryz.func190,Tryz.ntmps190
 go_wp2_with (fail)
 go_loopw [1,8] (fun s c wx=>∃(i m:Nat) (zs:List Int) (so:Int),s=.int .i8 so∧i+m=n∧c=.int .i64 i∧zs.length=n∧OutAt .i8 22 wx base ao cap zs∧w.grownBy wx (Value.slice ao n cap).ownBlock∧digitsF m i so zs=digitsF n 0 sos xs) (fun _ c _=>n-(intOf c).toNat)
 case atStart=>exact⟨0,n,xs,sos,rfl,by omega,rfl,HL.out,hO,wk_refl _ _,rfl⟩
 case round =>
  obtain⟨i,m,zs,so,rfl,him,rfl,hzl,hZ,hg,hF⟩:=hrel
  have HIM:=lh him
  have HZL:=lh hzl
  have HF:=lh hF
  clear him hzl hF hO
  by_cases hi:i<n
  ·obtain⟨m,rfl⟩:∃q,m=q+1:=⟨m-1,by have:=HIM.out;omega⟩
   obtain⟨G,rfl,hGb,hGl,hGc,hGf,_,_⟩:=hZ.at i (by have:=HZL.out;omega)
   have hst:∀y,ith zs i=y→digitsF (m+1) i so zs=if y=0∨y=1 then digitsF m (i+1) y zs else if y=3∧so=0 then digitsF m (i+1) so (zs.set i 0) else digitsF m (i+1) so zs:=fun y hy=>by rw [digitsF,hy]
   generalize hy:ith zs i=y at hGc
   have HN:=lh (hst y hy)
   clear hst hy
   by_cases h2:y=0∨y=1
   ·have HN2:=lh (HN.out.trans (if_pos h2))
    rcases h2 with h2 | h2
    ·subst h2
     go_wp2_with (fail)
     all_goals
      go_roundw
      case rel=>exact⟨i+1,m,zs,0,rfl,by have:=HIM.out;omega,by go_num,HZL.out,hZ,hg,by rw [←HF.out,HN2.out]⟩
      case measure=>simp [intOf];omega
    ·subst h2
     go_wp2_with (fail)
     all_goals
      go_roundw
      case rel=>exact⟨i+1,m,zs,1,rfl,by have:=HIM.out;omega,by go_num,HZL.out,hZ,hg,by rw [←HF.out,HN2.out]⟩
      case measure=>simp [intOf];omega
   ·have b0:(y==0)=false:=by simp only [not_or] at h2;simpa using h2.1
    have b1:(y==1)=false:=by simp only [not_or] at h2;simpa using h2.2
    by_cases h3:y=3∧so=0
    ·have HN2:=lh ((HN.out.trans (if_neg h2)).trans (if_pos h3))
     obtain⟨rfl,rfl⟩:=h3
     clear h2
     have HST:=lh (And.intro (hZ.set i 0) (wk_trans hg (World.ownsRow.stored hZ i (.int .i8 0)).2))
     clear hZ hg
     go_wp2_with (fail)
     all_goals
      go_roundw
      case rel=>exact⟨i+1,m,zs.set i 0,0,rfl,by have:=HIM.out;omega,by go_num,by rw [List.length_set];exact HZL.out,HST.out.1,HST.out.2,by rw [←HF.out,HN2.out]⟩
      case measure=>simp [intOf];omega
    ·have HN2:=lh ((HN.out.trans (if_neg h2)).trans (if_neg h3))
     by_cases h4:y=3
     ·have b3:(y==3)=true:=by simpa using h4
      have b5:(so==0)=false:=by simpa using fun e=>h3 ⟨h4,e⟩
      clear h2 h3 h4
      go_wp2_with (fail)
      all_goals
       go_roundw
       case rel=>exact⟨i+1,m,zs,so,rfl,by have:=HIM.out;omega,by go_num,HZL.out,hZ,hg,by rw [←HF.out,HN2.out]⟩
       case measure=>simp [intOf];omega
     ·have b3:(y==3)=false:=by simpa using h4
      clear h2 h3 h4
      go_wp2_with (fail)
      all_goals
       go_roundw
       case rel=>exact⟨i+1,m,zs,so,rfl,by have:=HIM.out;omega,by go_num,HZL.out,hZ,hg,by rw [←HF.out,HN2.out]⟩
       case measure=>simp [intOf];omega
  ·have h0:m=0:=by have:=HIM.out;omega
   have HZE:Hid (zs=digitsF n 0 sos xs):=by subst h0;exact HF
   go_wp2_with (fail)
   go_end0
   exact⟨rfl,by rw [←HZE.out];exact HZL.out,by rw [←HZE.out];exact hZ,hg⟩
set_option maxHeartbeats 1000000 in
theorem arabic_any (ao:Option Addr) (cap base n:Nat) (sos:Int) (xs:List Int) (w:World) (hl:xs.length=n) (hO:OutAt .i8 22 w base ao cap xs) (hn:n≤2097152) :
 Calls Tryz.prog 185 #[.slice ao n cap,.int .i8 sos] w (RulePost (arabicF n 0 sos xs) n base ao cap w):=by
 have HL:=lh hl
 clear hl
 go_enter Tryz.func185,Tryz.ntmps185
 go_wp2_with (fail)
 go_loopw [1,8] (fun s c wx=>∃(i m:Nat) (zs:List Int) (so:Int),s=.int .i8 so∧i+m=n∧c=.int .i64 i∧zs.length=n∧OutAt .i8 22 wx base ao cap zs∧w.grownBy wx (Value.slice ao n cap).ownBlock∧arabicF m i so zs=arabicF n 0 sos xs) (fun _ c _=>n-(intOf c).toNat)
 case atStart=>exact⟨0,n,xs,sos,rfl,by omega,rfl,HL.out,hO,wk_refl _ _,rfl⟩
 case round =>
  obtain⟨i,m,zs,so,rfl,him,rfl,hzl,hZ,hg,hF⟩:=hrel
  have HIM:=lh him
  have HZL:=lh hzl
  have HF:=lh hF
  clear him hzl hF hO
  by_cases hi:i<n
  ·obtain⟨m,rfl⟩:∃q,m=q+1:=⟨m-1,by have:=HIM.out;omega⟩
   obtain⟨G,rfl,hGb,hGl,hGc,hGf,_,_⟩:=hZ.at i (by have:=HZL.out;omega)
   have hst:∀y,ith zs i=y→arabicF (m+1) i so zs=if y=0∨y=1∨y=2 then arabicF m (i+1) y zs else if y=3∧so=2 then arabicF m (i+1) so (zs.set i 6) else arabicF m (i+1) so zs:=fun y hy=>by rw [arabicF,hy]
   generalize hy:ith zs i=y at hGc
   have HN:=lh (hst y hy)
   clear hst hy
   by_cases h2:y=0∨y=1∨y=2
   ·have HN2:=lh (HN.out.trans (if_pos h2))
    rcases h2 with h2 | h2 | h2
    ·subst h2
     go_wp2_with (fail)
     all_goals
      go_roundw
      case rel=>exact⟨i+1,m,zs,0,rfl,by have:=HIM.out;omega,by go_num,HZL.out,hZ,hg,by rw [←HF.out,HN2.out]⟩
      case measure=>simp [intOf];omega
    ·subst h2
     go_wp2_with (fail)
     all_goals
      go_roundw
      case rel=>exact⟨i+1,m,zs,1,rfl,by have:=HIM.out;omega,by go_num,HZL.out,hZ,hg,by rw [←HF.out,HN2.out]⟩
      case measure=>simp [intOf];omega
    ·subst h2
     go_wp2_with (fail)
     all_goals
      go_roundw
      case rel=>exact⟨i+1,m,zs,2,rfl,by have:=HIM.out;omega,by go_num,HZL.out,hZ,hg,by rw [←HF.out,HN2.out]⟩
      case measure=>simp [intOf];omega
   ·have b0:(y==0)=false:=by simp only [not_or] at h2;simpa using h2.1
    have b1:(y==1)=false:=by simp only [not_or] at h2;simpa using h2.2.1
    have b2:(y==2)=false:=by simp only [not_or] at h2;simpa using h2.2.2
    by_cases h3:y=3∧so=2
    ·have HN2:=lh ((HN.out.trans (if_neg h2)).trans (if_pos h3))
     obtain⟨rfl,rfl⟩:=h3
     clear h2
     have HST:=lh (And.intro (hZ.set i 6) (wk_trans hg (World.ownsRow.stored hZ i (.int .i8 6)).2))
     clear hZ hg
     go_wp2_with (fail)
     all_goals
      go_roundw
      case rel=>exact⟨i+1,m,zs.set i 6,2,rfl,by have:=HIM.out;omega,by go_num,by rw [List.length_set];exact HZL.out,HST.out.1,HST.out.2,by rw [←HF.out,HN2.out]⟩
      case measure=>simp [intOf];omega
    ·have HN2:=lh ((HN.out.trans (if_neg h2)).trans (if_neg h3))
     by_cases h4:y=3
     ·have b3:(y==3)=true:=by simpa using h4
      have b5:(so==2)=false:=by simpa using fun e=>h3 ⟨h4,e⟩
      clear h2 h3 h4
      go_wp2_with (fail)
      all_goals
       go_roundw
       case rel=>exact⟨i+1,m,zs,so,rfl,by have:=HIM.out;omega,by go_num,HZL.out,hZ,hg,by rw [←HF.out,HN2.out]⟩
       case measure=>simp [intOf];omega
     ·have b3:(y==3)=false:=by simpa using h4
      clear h2 h3 h4
      go_wp2_with (fail)
      all_goals
       go_roundw
       case rel=>exact⟨i+1,m,zs,so,rfl,by have:=HIM.out;omega,by go_num,HZL.out,hZ,hg,by rw [←HF.out,HN2.out]⟩
       case measure=>simp [intOf];omega
  ·have h0:m=0:=by have:=HIM.out;omega
   have HZE:Hid (zs=arabicF n 0 sos xs):=by subst h0;exact HF
   go_wp2_with (fail)
   go_end0
   exact⟨rfl,by rw [←HZE.out];exact HZL.out,by rw [←HZE.out];exact hZ,hg⟩
set_option maxHeartbeats 1000000 in
theorem marks_any (ao:Option Addr) (cap base n:Nat) (sos:Int) (xs:List Int) (w:World) (hl:xs.length=n) (hO:OutAt .i8 22 w base ao cap xs) (hn:n≤2097152) :
 Calls Tryz.prog 184 #[.slice ao n cap,.int .i8 sos] w (RulePost (marksF n 0 sos xs) n base ao cap w):=by
 have HL:=lh hl
 clear hl
 go_enter Tryz.func184,Tryz.ntmps184
 go_wp2_with (fail)
 go_loopw [1,8] (fun s c wx=>∃(i m:Nat) (zs:List Int) (so:Int),s=.int .i8 so∧i+m=n∧c=.int .i64 i∧zs.length=n∧OutAt .i8 22 wx base ao cap zs∧w.grownBy wx (Value.slice ao n cap).ownBlock∧marksF m i so zs=marksF n 0 sos xs) (fun _ c _=>n-(intOf c).toNat)
 case atStart=>exact⟨0,n,xs,sos,rfl,by omega,rfl,HL.out,hO,wk_refl _ _,rfl⟩
 case round =>
  obtain⟨i,m,zs,so,rfl,him,rfl,hzl,hZ,hg,hF⟩:=hrel
  have HIM:=lh him
  have HZL:=lh hzl
  have HF:=lh hF
  clear him hzl hF hO
  by_cases hi:i<n
  ·obtain⟨m,rfl⟩:∃q,m=q+1:=⟨m-1,by have:=HIM.out;omega⟩
   obtain⟨G,rfl,hGb,hGl,hGc,hGf,_,_⟩:=hZ.at i (by have:=HZL.out;omega)
   have hst:∀y,ith zs i=y→marksF (m+1) i so zs=if y=8 then marksF m (i+1) (if 19≤so∧so≤22 then 13 else so) (zs.set i so) else marksF m (i+1) (if 19≤y∧y≤22 then 13 else y) zs:=fun y hy=>by rw [marksF,hy]
   generalize hy:ith zs i=y at hGc
   have HN:=lh (hst y hy)
   clear hst hy
   by_cases h2:y=8
   ·have HN2:=lh (HN.out.trans (if_pos h2))
    subst h2
    by_cases hs:19≤so∧so≤22
    ·have HN3:=lh (HN2.out.trans (by rw [if_pos hs]))
     rcases (show so=19∨so=20∨so=21∨so=22 by omega) with h | h | h | h
     ·subst h
      clear hs
      have HST:=lh (And.intro (hZ.set i 19) (wk_trans hg (World.ownsRow.stored hZ i (.int .i8 19)).2))
      clear hZ hg
      go_wp2_with (fail)
      all_goals
       go_roundw
       case rel=>exact⟨i+1,m,zs.set i 19,13,rfl,by have:=HIM.out;omega,by go_num,by rw [List.length_set];exact HZL.out,HST.out.1,HST.out.2,by rw [←HF.out,HN3.out]⟩
       case measure=>simp [intOf];omega
     ·subst h
      clear hs
      have HST:=lh (And.intro (hZ.set i 20) (wk_trans hg (World.ownsRow.stored hZ i (.int .i8 20)).2))
      clear hZ hg
      go_wp2_with (fail)
      all_goals
       go_roundw
       case rel=>exact⟨i+1,m,zs.set i 20,13,rfl,by have:=HIM.out;omega,by go_num,by rw [List.length_set];exact HZL.out,HST.out.1,HST.out.2,by rw [←HF.out,HN3.out]⟩
       case measure=>simp [intOf];omega
     ·subst h
      clear hs
      have HST:=lh (And.intro (hZ.set i 21) (wk_trans hg (World.ownsRow.stored hZ i (.int .i8 21)).2))
      clear hZ hg
      go_wp2_with (fail)
      all_goals
       go_roundw
       case rel=>exact⟨i+1,m,zs.set i 21,13,rfl,by have:=HIM.out;omega,by go_num,by rw [List.length_set];exact HZL.out,HST.out.1,HST.out.2,by rw [←HF.out,HN3.out]⟩
       case measure=>simp [intOf];omega
     ·subst h
      clear hs
      have HST:=lh (And.intro (hZ.set i 22) (wk_trans hg (World.ownsRow.stored hZ i (.int .i8 22)).2))
      clear hZ hg
      go_wp2_with (fail)
      all_goals
       go_roundw
       case rel=>exact⟨i+1,m,zs.set i 22,13,rfl,by have:=HIM.out;omega,by go_num,by rw [List.length_set];exact HZL.out,HST.out.1,HST.out.2,by rw [←HF.out,HN3.out]⟩
       case measure=>simp [intOf];omega
    ·have HN3:=lh (HN2.out.trans (by rw [if_neg hs]))
     have c19:(so==19)=false:=by simp only [beq_eq_false_iff_ne];omega
     have c20:(so==20)=false:=by simp only [beq_eq_false_iff_ne];omega
     have c21:(so==21)=false:=by simp only [beq_eq_false_iff_ne];omega
     have c22:(so==22)=false:=by simp only [beq_eq_false_iff_ne];omega
     clear hs
     have HST:=lh (And.intro (hZ.set i so) (wk_trans hg (World.ownsRow.stored hZ i (.int .i8 so)).2))
     clear hZ hg
     go_wp2_with (fail)
     all_goals
      go_roundw
      case rel=>exact⟨i+1,m,zs.set i so,so,rfl,by have:=HIM.out;omega,by go_num,by rw [List.length_set];exact HZL.out,HST.out.1,HST.out.2,by rw [←HF.out,HN3.out]⟩
      case measure=>simp [intOf];omega
   ·have b8:(y==8)=false:=by simpa using h2
    have HN2:=lh (HN.out.trans (if_neg h2))
    clear h2
    by_cases hs:19≤y∧y≤22
    ·have HN3:=lh (HN2.out.trans (by rw [if_pos hs]))
     rcases (show y=19∨y=20∨y=21∨y=22 by omega) with h | h | h | h
     ·subst h
      clear hs
      go_wp2_with (fail)
      all_goals
       go_roundw
       case rel=>exact⟨i+1,m,zs,13,rfl,by have:=HIM.out;omega,by go_num,HZL.out,hZ,hg,by rw [←HF.out,HN3.out]⟩
       case measure=>simp [intOf];omega
     ·subst h
      clear hs
      go_wp2_with (fail)
      all_goals
       go_roundw
       case rel=>exact⟨i+1,m,zs,13,rfl,by have:=HIM.out;omega,by go_num,HZL.out,hZ,hg,by rw [←HF.out,HN3.out]⟩
       case measure=>simp [intOf];omega
     ·subst h
      clear hs
      go_wp2_with (fail)
      all_goals
       go_roundw
       case rel=>exact⟨i+1,m,zs,13,rfl,by have:=HIM.out;omega,by go_num,HZL.out,hZ,hg,by rw [←HF.out,HN3.out]⟩
       case measure=>simp [intOf];omega
     ·subst h
      clear hs
      go_wp2_with (fail)
      all_goals
       go_roundw
       case rel=>exact⟨i+1,m,zs,13,rfl,by have:=HIM.out;omega,by go_num,HZL.out,hZ,hg,by rw [←HF.out,HN3.out]⟩
       case measure=>simp [intOf];omega
    ·have HN3:=lh (HN2.out.trans (by rw [if_neg hs]))
     have c19:(y==19)=false:=by simp only [beq_eq_false_iff_ne];omega
     have c20:(y==20)=false:=by simp only [beq_eq_false_iff_ne];omega
     have c21:(y==21)=false:=by simp only [beq_eq_false_iff_ne];omega
     have c22:(y==22)=false:=by simp only [beq_eq_false_iff_ne];omega
     clear hs
     go_wp2_with (fail)
     all_goals
      go_roundw
      case rel=>exact⟨i+1,m,zs,y,rfl,by have:=HIM.out;omega,by go_num,HZL.out,hZ,hg,by rw [←HF.out,HN3.out]⟩
      case measure=>simp [intOf];omega
  ·have h0:m=0:=by have:=HIM.out;omega
   have HZE:Hid (zs=marksF n 0 sos xs):=by subst h0;exact HF
   go_wp2_with (fail)
   go_end0
   exact⟨rfl,by rw [←HZE.out];exact HZL.out,by rw [←HZE.out];exact hZ,hg⟩
set_option maxHeartbeats 1000000 in
theorem separators_any (ao:Option Addr) (cap base n:Nat) (sos:Int) (xs:List Int) (w:World) (hl:xs.length=n) (hO:OutAt .i8 22 w base ao cap xs) (hn:n≤2097152) :
 Calls Tryz.prog 187 #[.slice ao n cap,.int .i8 sos] w (RulePost (sepF (n-2) 1 xs) n base ao cap w):=by
 have HL:=lh hl
 clear hl
 go_enter Tryz.func187,Tryz.ntmps187
 go_wp2_with (fail)
 go_loopw [4] (fun c wx=>∃(i:Nat) (zs:List Int),i≤n+1∧c=.int .i64 ((i+1:Nat):Int)∧zs.length=n∧OutAt .i8 22 wx base ao cap zs∧w.grownBy wx (Value.slice ao n cap).ownBlock∧sepF (n-2-i) (i+1) zs=sepF (n-2) 1 xs) (fun c _=>n+2-(intOf c).toNat)
 case atStart=>exact⟨0,xs,by omega,rfl,HL.out,hO,wk_refl _ _,rfl⟩
 case round =>
  obtain⟨i,zs,hiM,rfl,hzl,hZ,hg,hF⟩:=hrel
  have HZL:=lh hzl
  have HF:=lh hF
  clear hzl hF hO
  by_cases hi:i+2<n
  ·obtain⟨G,rfl,hGb,hGl,hGc,hGf,_,_⟩:=hZ.at (i+1) (by have:=HZL.out;omega)
   obtain⟨G',hG',_,_,hGa,_⟩:=hZ.at i (by have:=HZL.out;omega)
   cases hG'
   obtain⟨G',hG',_,_,hGn,_⟩:=hZ.at (i+2) (by have:=HZL.out;omega)
   cases hG'
   have hst:∀a y b,ith zs i=a→ith zs (i+1)=y→ith zs (i+2)=b→sepF (n-2-i) (i+1) zs=if a=b∧(a=3∨a=6)∧(y=7∨(y=4∧a=3)) then sepF (n-2-(i+1)) (i+1+1) (zs.set (i+1) a) else sepF (n-2-(i+1)) (i+1+1) zs:=fun a y b ha hy hb=>by
    rw [show n-2-i=(n-2-(i+1))+1 by omega,sepF,Nat.add_sub_cancel,show i+1+1=i+2 by omega,ha,hy,hb]
   generalize ha:ith zs i=a at hGa
   generalize hy:ith zs (i+1)=y at hGc
   generalize hb:ith zs (i+2)=b at hGn
   have HN:=lh (hst a y b ha hy hb)
   clear hst ha hy hb
   by_cases hc:a=b∧(a=3∨a=6)∧(y=7∨(y=4∧a=3))
   ·have HN2:=lh (HN.out.trans (if_pos hc))
    obtain⟨rfl,hc2,hc3⟩:=hc
    have HST:=lh (And.intro (hZ.set (i+1) a) (wk_trans hg (World.ownsRow.stored hZ (i+1) (.int .i8 a)).2))
    clear hZ hg
    rcases hc2 with rfl | rfl <;> rcases hc3 with rfl | ⟨rfl,h3⟩
    all_goals
     first
      | (exfalso;revert h3;decide)
      | (go_wp2_with (fail)
         go_roundw
         case rel=>exact⟨i+1,_,by omega,by go_num,by rw [List.length_set];exact HZL.out,HST.out.1,HST.out.2,by rw [←HF.out,HN2.out]⟩
         case measure=>simp [intOf];omega)
   ·have HN2:=lh (HN.out.trans (if_neg hc))
    by_cases hab:a=b
    ·subst hab
     by_cases h3:a=3
     ·subst h3
      have b7:(y==7)=false:=by simpa using fun e=>hc ⟨rfl,.inl rfl,.inl e⟩
      have b4:(y==4)=false:=by simpa using fun e=>hc ⟨rfl,.inl rfl,.inr ⟨e,rfl⟩⟩
      clear hc
      go_wp2_with (fail)
      go_roundw
      case rel=>exact⟨i+1,zs,by omega,by go_num,HZL.out,hZ,hg,by rw [←HF.out,HN2.out]⟩
      case measure=>simp [intOf];omega
     ·by_cases h6:a=6
      ·subst h6
       have b7:(y==7)=false:=by simpa using fun e=>hc ⟨rfl,.inr rfl,.inl e⟩
       clear hc h3
       by_cases h4:y=4
       ·subst h4
        go_wp2_with (fail)
        go_roundw
        case rel=>exact⟨i+1,zs,by omega,by go_num,HZL.out,hZ,hg,by rw [←HF.out,HN2.out]⟩
        case measure=>simp [intOf];omega
       ·have b4:(y==4)=false:=by simpa using h4
        clear h4
        go_wp2_with (fail)
        go_roundw
        case rel=>exact⟨i+1,zs,by omega,by go_num,HZL.out,hZ,hg,by rw [←HF.out,HN2.out]⟩
        case measure=>simp [intOf];omega
      ·have c3:(a != 3)=true:=by simpa using h3
       have c6:(a != 6)=true:=by simpa using h6
       clear hc h3 h6
       go_wp2_with (fail)
       go_roundw
       case rel=>exact⟨i+1,zs,by omega,by go_num,HZL.out,hZ,hg,by rw [←HF.out,HN2.out]⟩
       case measure=>simp [intOf];omega
    ·have cab:(a != b)=true:=by simpa using hab
     clear hc hab
     go_wp2_with (fail)
     go_roundw
     case rel=>exact⟨i+1,zs,by omega,by go_num,HZL.out,hZ,hg,by rw [←HF.out,HN2.out]⟩
     case measure=>simp [intOf];omega
  ·have HZE:Hid (zs=sepF (n-2) 1 xs):=by
    have:=HF.out
    rw [show n-2-i=0 by omega] at this
    exact this
   go_wp2_with (fail)
   go_end0
   exact⟨rfl,by rw [←HZE.out];exact HZL.out,by rw [←HZE.out];exact hZ,hg⟩
end
section
open Go.RowKit
theorem wp_scope_again {P:Program} {a:Act} {w:World} {Q:Exit→Act→World→Prop} {x rest:Code} (l:Nat) (J:Act→World→Prop) (μ:Act→World→Nat) (hx:findLabel x l=none)
 (first:x.wp P (fun e a w=>e=.normal∧J a w) a w)
 (pass:∀a w,J a w→rest.wp P (Exit.jump l (fun a' w'=>J a' w'∧μ a' w'<μ a w) Q) a w):(Code.scope (.seq x (.seq (.label l) rest))).wp P Q a w:=by
 have hp:∀a w,J a w→(Code.seq .skip rest).wp P (Exit.jump l (fun a' w'=>J a' w'∧μ a' w'<μ a w) Q) a w:=fun a w h=>by
  apply wp_seq
  apply wp_skip
  exact pass a w h
 refine wp_scope_jumps (rest:=.seq .skip rest) l J μ (by simp [findLabel,hx]) ?_ hp
 apply wp_seq
 refine Code.wp_mono (fun e a w h=>?_) first
 obtain⟨rfl,hJ⟩:=h
 show Code.wp P _ _ a w
 apply wp_seq
 apply wp_label
 show Code.wp P _ _ a w
 refine Code.wp_mono (fun e a' w' h=>?_) (pass a w hJ)
 cases e <;> first | exact h | exact⟨h.1,h.2.1⟩
theorem own_slice2 {k:IntKind} {e base cap:Nat} {w:World} {ao:Option Addr} {out:List Int} (h:OutAt k e w base ao cap out):out.length≤cap∧cap≤maxLen:=by
 rcases h.2 with ⟨h1,h0⟩ | ⟨g,cap',cur,h1,hb,hh,hc,hm,hs,ht⟩
 ·simp only [Value.slice.injEq] at h1;unfold maxLen;omega
 ·simp only [Value.slice.injEq] at h1;obtain⟨_,_,rfl⟩:=h1;exact⟨hc,hm⟩
theorem seekF_bd (b:Bool) (l:List Int):∀(m i:Nat),i≤seekF b l m i∧seekF b l m i≤i+m
 | 0,i=>⟨Nat.le_refl _,Nat.le_refl _⟩
 | m+1,i=>by
   unfold seekF
   split
   ·omega
   ·have:=seekF_bd b l m (i+1);omega
theorem seekF_at (b:Bool) (l:List Int):∀(m i:Nat),seekF b l m i<i+m→decide (ith l (seekF b l m i)=5)=b
 | 0,i,h=>by unfold seekF at h;omega
 | m+1,i,h=>by
   unfold seekF at h ⊢
   split
   ·assumption
   ·rename_i h2
    rw [if_neg h2] at h
    exact seekF_at b l m (i+1) (by omega)
def TermJ (n base:Nat) (ao:Option Addr) (cap:Nat) (sos:Int) (xs:List Int) (w0:World) (a':Act) (wx:World):Prop :=
 ∃(i f:Nat) (zs:List Int),(∃(u2 u3 u5 u6 u7 u8 u9 u10 u11 u12 u13 u14 u15 u16 u17 u18 u19 u20 u21 u22 u23 u24 u25 u26 u27 u28 u29 u30 u31 u32 u33 u34 u35 u36 u37 u38 u39 u40 u41 u42 u43 u44 u45 u46 u47 u48 u49 u50 u51 u52 u53 u54 u55 u56 u57 u58 u59 u60 u61 u62 u63 u64 u65 u66 u67 u68 u69 u70 u71 u72 u73 u74:Value),a'={ tmps:=#[.slice ao n cap,.int .i8 sos,u2,u3,.int .i64 (i:Nat),u5,u6,u7,u8,u9,u10,u11,u12,u13,u14,u15,u16,u17,u18,u19,u20,u21,u22,u23,u24,u25,u26,u27,u28,u29,u30,u31,u32,u33,u34,u35,u36,u37,u38,u39,u40,u41,u42,u43,u44,u45,u46,u47,u48,u49,u50,u51,u52,u53,u54,u55,u56,u57,u58,u59,u60,u61,u62,u63,u64,u65,u66,u67,u68,u69,u70,u71,u72,u73,u74],defers:=[] })∧i≤n∧zs.length=n∧OutAt .i8 22 wx base ao cap zs∧w0.grownBy wx (Value.slice ao n cap).ownBlock∧n-i<f∧termF f i zs=termF (n+1) 0 xs
set_option maxRecDepth 100000 in
set_option maxHeartbeats 1000000 in
theorem terminators_any (ao:Option Addr) (cap base n:Nat) (sos:Int) (xs:List Int) (w:World) (hl:xs.length=n) (hO:OutAt .i8 22 w base ao cap xs) (hn:n≤2097152) :
 Calls Tryz.prog 188 #[.slice ao n cap,.int .i8 sos] w (RulePost (termF (n+1) 0 xs) n base ao cap w):=by
 have HL:=lh hl
 clear hl
 have hcap:=(own_slice2 hO).1
 go_enter Tryz.func188,Tryz.ntmps188
 refine wp_scope_again 0 (TermJ n base ao cap sos xs w) (fun a' _=>n-(intOf (a'.tmps.getD 4 undef)).toNat) (by rfl) ?_ ?_
 ·go_wp2_with (fail)
  exact⟨0,n+1,xs,⟨_,_,_,_,_,_,_,_,_,_,_,_,_,_,_,_,_,_,_,_,_,_,_,_,_,_,_,_,_,_,_,_,_,_,_,_,_,_,_,_,_,_,_,_,_,_,_,_,_,_,_,_,_,_,_,_,_,_,_,_,_,_,_,_,_,_,_,_,_,_,_,_,rfl⟩,by omega,HL.out,hO,wk_refl _ _,by omega,rfl⟩
 ·rintro a' wr ⟨i,f,zs,⟨u2,u3,u5,u6,u7,u8,u9,u10,u11,u12,u13,u14,u15,u16,u17,u18,u19,u20,u21,u22,u23,u24,u25,u26,u27,u28,u29,u30,u31,u32,u33,u34,u35,u36,u37,u38,u39,u40,u41,u42,u43,u44,u45,u46,u47,u48,u49,u50,u51,u52,u53,u54,u55,u56,u57,u58,u59,u60,u61,u62,u63,u64,u65,u66,u67,u68,u69,u70,u71,u72,u73,u74,rfl⟩,hin,hzl,hZ,hg,hf,hF⟩
  clear hO
  have HZL:=lh hzl
  have HF:=lh hF
  clear hzl hF
  obtain⟨f,rfl⟩:∃g,f=g+1:=⟨f-1,by omega⟩
  obtain⟨A,hA⟩:∃A,seekF true zs (n-i) i=A:=⟨_,rfl⟩
  have hA1:=seekF_bd true zs (n-i) i
  have hA5:=seekF_at true zs (n-i) i
  rw [hA] at hA1 hA5
  obtain⟨B,hB⟩:∃B,seekF false zs (n-A) A=B:=⟨_,rfl⟩
  have hB1:=seekF_bd false zs (n-A) A
  rw [hB] at hB1
  have hAB:A<n→A+1≤B:=fun h=>by
   have h5:=hA5 (by omega)
   obtain⟨q,hq⟩:∃q,n-A=q+1:=⟨n-A-1,by omega⟩
   rw [hq,seekF,if_neg (by rw [h5];decide)] at hB
   have:=seekF_bd false zs q (A+1)
   omega
  have hstep:termF (f+1) i zs=if A=n then zs else if (0<A∧ith zs (A-1)=3)∨(B<n∧ith zs B=3) then termF f B (fillW 3 (B-A) A zs) else termF f B zs:=by
   rw [termF]
   simp only [HZL.out,hA,hB]
  have HST:=lh hstep
  have HA:=lh hA
  have HB:=lh hB
  have HAB:=lh hAB
  have HC:=lh (fun j (hj:j<n)=>hZ.at j (by have:=HZL.out;omega))
  clear hstep hA hB hAB hA5
  have hA2:A≤n:=by omega
  have hB2:B≤n:=by omega
  have hB3:A≤B:=hB1.1
  have hA3:i≤A:=hA1.1
  clear hA1 hB1
  go_wp2_with (fail)
  go_loopw [4] (fun c wx=>wx=wr∧∃(j m:Nat),j+m=n∧i≤j∧c=.int .i64 j∧seekF true zs m j=A) (fun c _=>n-(intOf c).toNat)
  case atStart=>exact⟨rfl,i,n-i,by omega,Nat.le_refl _,rfl,HA.out⟩
  case round =>
   obtain⟨hwx,j,m,hjm,hij,rfl,hS⟩:=hrel
   have hwx':=hwx.symm
   clear hwx
   subst hwx'
   have HJM:=lh hjm
   have HS:=lh hS
   clear hjm hS
   by_cases hgo:j<n∧ith zs j≠5
   ·obtain⟨hj,h5⟩:=hgo
    obtain⟨m,rfl⟩:∃q,m=q+1:=⟨m-1,by have:=HJM.out;omega⟩
    obtain⟨G,rfl,_,_,hGc,_⟩:=HC.out j hj
    have hs1:∀y,ith zs j=y→seekF true zs (m+1) j=if decide (y=5)=true then j else seekF true zs m (j+1):=fun y hy=>by rw [seekF,hy]
    generalize hy:ith zs j=y at hGc h5
    have HS1:=lh ((hs1 y hy).trans (if_neg (by simpa using h5)))
    have c5:(y != 5)=true:=by simpa using h5
    clear hs1 hy h5
    go_wp2_with (fail)
    go_roundw
    case rel=>exact⟨trivial,j+1,m,by have:=HJM.out;omega,by omega,by go_num,by rw [←HS.out,HS1.out]⟩
    case measure=>simp [intOf];omega
   ·have HJE:Hid (j=A):=by
     have h1:=HS.out
     have h2:=HJM.out
     cases m with
     | zero=>exact h1
     | succ m =>
       rw [seekF,if_pos (by
        have:ith zs j=5:=by
         by_cases h:ith zs j=5
         ·exact h
         ·exact absurd ⟨by omega,h⟩ hgo
        rw [this];decide)] at h1
       exact h1
    go_upto_region 1 with (fail)
    go_cut [17] (fun t wx=>t=.bool false∧wx=wr)
    case first =>
     by_cases hj:j<n
     ·obtain⟨G,rfl,_,_,hGc,_⟩:=HC.out j hj
      have h5:ith zs j=5:=by
       by_cases h:ith zs j=5
       ·exact h
       ·exact absurd ⟨hj,h⟩ hgo
      rw [h5] at hGc
      clear hgo
      go_wp2_with (fail)
      all_goals (go_meet;exact⟨rfl,rfl⟩)
     ·clear hgo
      go_wp2_with (fail)
      all_goals (go_meet;exact⟨rfl,rfl⟩)
    case rest =>
     obtain⟨rfl,hwx⟩:=hcut
     have hwx':=hwx.symm
     clear hwx
     subst hwx'
     clear hgo HS HJM
     have h:=HJE.out
     clear HJE
     subst h
     by_cases hjn:j=n
     ·have HZE:Hid (zs=termF (n+1) 0 xs):=(HST.out.trans (if_pos hjn)).symm.trans HF.out
      have cb:((j:Int)==(n:Int))=true:=by rw [hjn];simp
      clear hjn HST
      go_wp2_with (fail)
      simp only [Exit.jump]
      go_end0
      exact⟨rfl,by rw [←HZE.out];exact HZL.out,by rw [←HZE.out];exact hZ,hg⟩
     ·have HS2:=lh (HST.out.trans (if_neg hjn))
      have cb:((j:Int)==(n:Int))=false:=by simp only [beq_eq_false_iff_ne];omega
      have hjlt:j<n:=by omega
      have hBj:=HAB.out hjlt
      clear hjn HST HAB
      go_wp2_with (fail)
      go_loopw [4] (fun c wx=>wx=wr∧∃(q m:Nat),q+m=n∧j≤q∧c=.int .i64 q∧seekF false zs m q=B) (fun c _=>n-(intOf c).toNat)
      case atStart=>exact⟨rfl,j,n-j,by omega,Nat.le_refl _,rfl,HB.out⟩
      case round =>
       obtain⟨hwx,q,m,hqm,hjq,rfl,hS⟩:=hrel
       have hwx':=hwx.symm
       clear hwx
       subst hwx'
       have HQM:=lh hqm
       have HS:=lh hS
       clear hqm hS
       by_cases hgo:q<n∧ith zs q=5
       ·obtain⟨hq,h5⟩:=hgo
        obtain⟨m,rfl⟩:∃r,m=r+1:=⟨m-1,by have:=HQM.out;omega⟩
        obtain⟨G,rfl,_,_,hGc,_⟩:=HC.out q hq
        have hs1:∀y,ith zs q=y→seekF false zs (m+1) q=if decide (y=5)=false then q else seekF false zs m (q+1):=fun y hy=>by rw [seekF,hy]
        rw [h5] at hGc
        have HS1:=lh ((hs1 5 h5).trans (if_neg (by decide)))
        clear hs1 h5
        go_wp2_with (fail)
        go_roundw
        case rel=>exact⟨trivial,q+1,m,by have:=HQM.out;omega,by omega,by go_num,by rw [←HS.out,HS1.out]⟩
        case measure=>simp [intOf];omega
       ·have HQE:Hid (q=B):=by
         have h1:=HS.out
         have h2:=HQM.out
         cases m with
         | zero=>exact h1
         | succ m =>
           rw [seekF,if_pos (decide_eq_false (fun h=>hgo ⟨by omega,h⟩))] at h1
           exact h1
        go_upto_region 5 with (fail)
        go_cut [35] (fun t wx=>t=.bool false∧wx=wr)
        case first =>
         by_cases hq:q<n
         ·obtain⟨G,rfl,_,_,hGc,_⟩:=HC.out q hq
          have h5:(ith zs q==5)=false:=by simpa using fun h=>hgo ⟨hq,h⟩
          generalize ith zs q=y at hGc h5
          clear hgo
          go_wp2_with (fail)
          all_goals (go_meet;exact⟨rfl,rfl⟩)
         ·clear hgo
          go_wp2_with (fail)
          all_goals (go_meet;exact⟨rfl,rfl⟩)
        case rest =>
         obtain⟨rfl,hwx⟩:=hcut
         have hwx':=hwx.symm
         clear hwx
         subst hwx'
         clear hgo HS HQM
         have h:=HQE.out
         clear HQE
         subst h
         obtain⟨C,hC⟩:∃C:Bool,decide ((0<j∧ith zs (j-1)=3)∨(q<n∧ith zs q=3))=C:=⟨_,rfl⟩
         have HCC:=lh hC
         clear hC
         go_upto_region 7 with (fail)
         go_cut [60] (fun t wx=>t=.bool C∧wx=wr)
         case first =>
          by_cases h1:0<j∧ith zs (j-1)=3
          ·have HT:=lh (HCC.out.symm.trans (decide_eq_true (.inl h1)))
           obtain⟨h0,h3⟩:=h1
           obtain⟨G,rfl,_,_,hGc,_⟩:=HC.out (j-1) (by omega)
           rw [h3] at hGc
           obtain⟨j',rfl⟩:∃j',j=j'+1:=⟨j-1,by omega⟩
           rw [Nat.add_sub_cancel] at hGc
           clear h3
           go_wp2_with (fail)
           all_goals (go_meet;exact⟨by rw [HT.out],rfl⟩)
          ·have HP:Hid (C=decide (q<n∧ith zs q=3)):=HCC.out.symm.trans (decide_eq_decide.2 ⟨fun h=>h.resolve_left h1,.inr⟩)
           by_cases hq:q<n
           ·obtain⟨G,hao,_,_,hGc,_⟩:=HC.out q hq
            subst hao
            have HP2:=lh (HP.out.trans (show decide (q<n∧ith zs q=3)=(ith zs q==3) from Bool.eq_iff_iff.2 (by simp [hq])))
            generalize ith zs q=y at hGc HP2
            by_cases h0:0<j
            ·obtain⟨G',hG',_,_,hGd,_⟩:=HC.out (j-1) (by omega)
             cases hG'
             obtain⟨j',rfl⟩:∃j',j=j'+1:=⟨j-1,by omega⟩
             rw [Nat.add_sub_cancel] at hGd h1
             have h3:(ith zs j'==3)=false:=by simpa using fun h=>h1 ⟨h0,h⟩
             generalize ith zs j'=z at hGd h3
             clear h1
             go_wp2_with (fail)
             all_goals (go_meet;exact⟨by rw [HP2.out],rfl⟩)
            ·clear h1
             go_wp2_with (fail)
             all_goals (go_meet;exact⟨by rw [HP2.out],rfl⟩)
           ·have HP2:=lh (HP.out.trans (decide_eq_false (fun h=>hq h.1)))
            by_cases h0:0<j
            ·obtain⟨G',hG',_,_,hGd,_⟩:=HC.out (j-1) (by omega)
             subst hG'
             obtain⟨j',rfl⟩:∃j',j=j'+1:=⟨j-1,by omega⟩
             rw [Nat.add_sub_cancel] at hGd h1
             have h3:(ith zs j'==3)=false:=by simpa using fun h=>h1 ⟨h0,h⟩
             generalize ith zs j'=z at hGd h3
             clear h1
             go_wp2_with (fail)
             all_goals (go_meet;exact⟨by rw [HP2.out],rfl⟩)
            ·clear h1
             go_wp2_with (fail)
             all_goals (go_meet;exact⟨by rw [HP2.out],rfl⟩)
         case rest =>
          obtain⟨rfl,hwx⟩:=hcut
          have hwx':=hwx.symm
          clear hwx
          subst hwx'
          have hfq:n-q<f:=by omega
          have hqc:(q:Int)≤(cap:Int):=by have h1:=HL.out;omega
          cases C with
          | false =>
            have HN:=lh (HS2.out.trans (if_neg (of_decide_eq_false HCC.out)))
            clear HS2 HCC
            go_wp2_with (fail)
            go_step3
            exact⟨rfl,⟨q,f,zs,⟨_,_,_,_,_,_,_,_,_,_,_,_,_,_,_,_,_,_,_,_,_,_,_,_,_,_,_,_,_,_,_,_,_,_,_,_,_,_,_,_,_,_,_,_,_,_,_,_,_,_,_,_,_,_,_,_,_,_,_,_,_,_,_,_,_,_,_,_,_,_,_,_,rfl⟩,hB2,HZL.out,hZ,hg,hfq,HN.out.symm.trans HF.out⟩,by simp [intOf];omega⟩
          | true =>
            have HN:=lh (HS2.out.trans (if_pos (of_decide_eq_true HCC.out)))
            clear HS2 HCC
            go_wp2_with (fail)
            go_loopw [66] (fun c wx=>∃(k d:Nat) (ys:List Int),k+d=q-j∧c=.int .i64 k∧ys.length=n∧OutAt .i8 22 wx base ao cap ys∧w.grownBy wx (Value.slice ao n cap).ownBlock∧fillW 3 d (j+k) ys=fillW 3 (q-j) j zs) (fun c _=>q-j-(intOf c).toNat)
            case atStart=>exact⟨0,q-j,zs,by omega,rfl,HZL.out,hZ,hg,rfl⟩
            case round =>
             obtain⟨k,d,ys,hkd,rfl,hyl,hY,hgY,hFY⟩:=hrel
             have HKD:=lh hkd
             have HYL:=lh hyl
             have HFY:=lh hFY
             clear hkd hyl hFY hZ hg HC
             by_cases hk:k<q-j
             ·obtain⟨d,rfl⟩:∃d',d=d'+1:=⟨d-1,by have:=HKD.out;omega⟩
              obtain⟨G,rfl,_,_,hGc,hGf,_,_⟩:=hY.at (j+k) (by have:=HYL.out;omega)
              have HSTT:=lh (And.intro (hY.set (j+k) 3) (wk_trans hgY (World.ownsRow.stored hY (j+k) (.int .i8 3)).2))
              clear hY hgY
              go_wp2_with (fail)
              go_roundw
              case rel=>exact⟨k+1,d,ys.set (j+k) 3,by have:=HKD.out;omega,by go_num,by rw [List.length_set];exact HYL.out,HSTT.out.1,HSTT.out.2,by rw [←HFY.out];rfl⟩
              case measure=>simp [intOf];omega
             ·have HYE:Hid (ys=fillW 3 (q-j) j zs):=by
               have h1:=HFY.out
               have h2:=HKD.out
               rw [show d=0 by omega] at h1
               exact h1
              go_wp2_with (fail)
              go_step3
              exact⟨rfl,⟨q,f,ys,⟨_,_,_,_,_,_,_,_,_,_,_,_,_,_,_,_,_,_,_,_,_,_,_,_,_,_,_,_,_,_,_,_,_,_,_,_,_,_,_,_,_,_,_,_,_,_,_,_,_,_,_,_,_,_,_,_,_,_,_,_,_,_,_,_,_,_,_,_,_,_,_,_,rfl⟩,hB2,HYL.out,hY,hgY,hfq,by rw [HYE.out];exact HN.out.symm.trans HF.out⟩,by simp [intOf];omega⟩
end
end Go.Proofs.YtlbclfmbejjneaaGreatDoor
