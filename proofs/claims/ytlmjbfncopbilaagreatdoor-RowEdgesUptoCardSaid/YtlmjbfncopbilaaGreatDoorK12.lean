/- Part 12 (merged by a program): lemmas of no further condition than each states. -/
import Derived.IntWalk
import Derived.Deep.RegionHeld3
import Derived.Deep.RegionLaw
import Derived.ScopeJumps
import Derived.WalkMore
import Derived.Test.YtlmjbfncopbilaaGreatDoorK04
namespace Go.Proofs.YtlmjbfncopbilaaGreatDoor
set_option linter.unusedVariables false
set_option linter.unusedSimpArgs false
section
open Go.RowKit
theorem wk_trans {w w1 w2:World} {row:Option Nat} (h1:w.grownBy w1 row) (h2:w1.grownBy w2 row):w.grownBy w2 row :=
 ⟨h2.os.trans h1.os,h2.tape.trans h1.tape,h2.output.trans h1.output,Nat.le_trans h1.size h2.size,fun k hk hne=>(h2.block k (Nat.lt_of_lt_of_le hk h1.size) hne).trans (h1.block k hk hne)⟩
theorem wk_refl (w:World) (row:Option Nat):w.grownBy w row:=⟨rfl,rfl,rfl,Nat.le_refl _,fun _ _ _=>rfl⟩
def RulePost (ys:List Int) (n base:Nat) (ao:Option Addr) (cap:Nat) (w:World) (e:Ending) (w':World):Prop :=
 e=.returned (.tuple #[])∧ys.length=n∧OutAt .i8 22 w' base ao cap ys∧w.grownBy w' (Value.slice ao n cap).ownBlock
set_option maxHeartbeats 1000000 in
theorem letters_any (ao:Option Addr) (cap base n:Nat) (sos:Int) (xs:List Int) (w:World) (hl:xs.length=n) (hO:OutAt .i8 22 w base ao cap xs) (hn:n≤2097152) :
 Calls Tryz.prog 216 #[.slice ao n cap,.int .i8 sos] w (RulePost (lettersF n 0 xs) n base ao cap w):=by
 have HL:=lh hl
 clear hl
 go_enter Tryz.func216,Tryz.ntmps216
 go_wp2_with (fail)
 go_loopw [8] (fun c wx=>∃(i m:Nat) (zs:List Int),i+m=n∧c=.int .i64 i∧zs.length=n∧OutAt .i8 22 wx base ao cap zs∧w.grownBy wx (Value.slice ao n cap).ownBlock∧lettersF m i zs=lettersF n 0 xs) (fun c _=>n-(intOf c).toNat)
 case atStart=>exact⟨0,n,xs,by omega,rfl,HL.out,hO,wk_refl _ _,rfl⟩
 case round =>
  obtain⟨i,m,zs,him,rfl,hzl,hZ,hg,hF⟩:=hrel
  have HIM:=lh him
  have HZL:=lh hzl
  have HF:=lh hF
  clear him hzl hF hO
  by_cases hi:i<n
  ·obtain⟨m,rfl⟩:∃q,m=q+1:=⟨m-1,by have:=HIM.out;omega⟩
   obtain⟨G,rfl,hGb,hGl,hGc,hGf,_,_⟩:=hZ.at i (by have:=HZL.out;omega)
   have hst:∀y,ith zs i=y→lettersF (m+1) i zs=if y=2 then lettersF m (i+1) (zs.set i 1) else lettersF m (i+1) zs:=fun y hy=>by rw [lettersF,hy]
   generalize hy:ith zs i=y at hGc
   have HN:=lh (hst y hy)
   clear hst hy
   by_cases h2:y=2
   ·have hb:(y==2)=true:=by simpa using h2
    have HN2:=lh (HN.out.trans (if_pos h2))
    clear h2
    have HST:=lh (And.intro (hZ.set i 1) (wk_trans hg (World.ownsRow.stored hZ i (.int .i8 1)).2))
    clear hZ hg
    go_wp2_with (fail)
    all_goals
     go_roundw
     case rel=>exact⟨i+1,m,zs.set i 1,by have:=HIM.out;omega,by go_num,by rw [List.length_set];exact HZL.out,HST.out.1,HST.out.2,by rw [←HF.out,HN2.out]⟩
     case measure=>simp [intOf];omega
   ·have hb:(y==2)=false:=by simpa using h2
    have HN2:=lh (HN.out.trans (if_neg h2))
    clear h2
    go_wp2_with (fail)
    all_goals
     go_roundw
     case rel=>exact⟨i+1,m,zs,by have:=HIM.out;omega,by go_num,HZL.out,hZ,hg,by rw [←HF.out,HN2.out]⟩
     case measure=>simp [intOf];omega
  ·have h0:m=0:=by have:=HIM.out;omega
   have HZE:Hid (zs=lettersF n 0 xs):=by subst h0;exact HF
   go_wp2_with (fail)
   go_end0
   exact⟨rfl,by rw [←HZE.out];exact HZL.out,by rw [←HZE.out];exact hZ,hg⟩
set_option maxHeartbeats 1000000 in
theorem others_any (ao:Option Addr) (cap base n:Nat) (sos:Int) (xs:List Int) (w:World) (hl:xs.length=n) (hO:OutAt .i8 22 w base ao cap xs) (hn:n≤2097152) :
 Calls Tryz.prog 219 #[.slice ao n cap,.int .i8 sos] w (RulePost (othersF n 0 xs) n base ao cap w):=by
 have HL:=lh hl
 clear hl
 go_enter Tryz.func219,Tryz.ntmps219
 go_wp2_with (fail)
 go_loopw [8] (fun c wx=>∃(i m:Nat) (zs:List Int),i+m=n∧c=.int .i64 i∧zs.length=n∧OutAt .i8 22 wx base ao cap zs∧w.grownBy wx (Value.slice ao n cap).ownBlock∧othersF m i zs=othersF n 0 xs) (fun c _=>n-(intOf c).toNat)
 case atStart=>exact⟨0,n,xs,by omega,rfl,HL.out,hO,wk_refl _ _,rfl⟩
 case round =>
  obtain⟨i,m,zs,him,rfl,hzl,hZ,hg,hF⟩:=hrel
  have HIM:=lh him
  have HZL:=lh hzl
  have HF:=lh hF
  clear him hzl hF hO
  by_cases hi:i<n
  ·obtain⟨m,rfl⟩:∃q,m=q+1:=⟨m-1,by have:=HIM.out;omega⟩
   obtain⟨G,rfl,hGb,hGl,hGc,hGf,_,_⟩:=hZ.at i (by have:=HZL.out;omega)
   have hst:∀y,ith zs i=y→othersF (m+1) i zs=if y=4∨y=5∨y=7 then othersF m (i+1) (zs.set i 13) else othersF m (i+1) zs:=fun y hy=>by rw [othersF,hy]
   generalize hy:ith zs i=y at hGc
   have HN:=lh (hst y hy)
   clear hst hy
   by_cases h2:y=4∨y=5∨y=7
   ·have HN2:=lh (HN.out.trans (if_pos h2))
    rcases h2 with h2 | h2 | h2
    ·subst h2
     have HST:=lh (And.intro (hZ.set i 13) (wk_trans hg (World.ownsRow.stored hZ i (.int .i8 13)).2))
     clear hZ hg
     go_wp2_with (fail)
     all_goals
      go_roundw
      case rel=>exact⟨i+1,m,zs.set i 13,by have:=HIM.out;omega,by go_num,by rw [List.length_set];exact HZL.out,HST.out.1,HST.out.2,by rw [←HF.out,HN2.out]⟩
      case measure=>simp [intOf];omega
    ·subst h2
     have HST:=lh (And.intro (hZ.set i 13) (wk_trans hg (World.ownsRow.stored hZ i (.int .i8 13)).2))
     clear hZ hg
     go_wp2_with (fail)
     all_goals
      go_roundw
      case rel=>exact⟨i+1,m,zs.set i 13,by have:=HIM.out;omega,by go_num,by rw [List.length_set];exact HZL.out,HST.out.1,HST.out.2,by rw [←HF.out,HN2.out]⟩
      case measure=>simp [intOf];omega
    ·subst h2
     have HST:=lh (And.intro (hZ.set i 13) (wk_trans hg (World.ownsRow.stored hZ i (.int .i8 13)).2))
     clear hZ hg
     go_wp2_with (fail)
     all_goals
      go_roundw
      case rel=>exact⟨i+1,m,zs.set i 13,by have:=HIM.out;omega,by go_num,by rw [List.length_set];exact HZL.out,HST.out.1,HST.out.2,by rw [←HF.out,HN2.out]⟩
      case measure=>simp [intOf];omega
   ·have HN2:=lh (HN.out.trans (if_neg h2))
    have b4:(y==4)=false:=by simp only [not_or] at h2;simpa using h2.1
    have b5:(y==5)=false:=by simp only [not_or] at h2;simpa using h2.2.1
    have b7:(y==7)=false:=by simp only [not_or] at h2;simpa using h2.2.2
    clear h2
    go_wp2_with (fail)
    all_goals
     go_roundw
     case rel=>exact⟨i+1,m,zs,by have:=HIM.out;omega,by go_num,HZL.out,hZ,hg,by rw [←HF.out,HN2.out]⟩
     case measure=>simp [intOf];omega
  ·have h0:m=0:=by have:=HIM.out;omega
   have HZE:Hid (zs=othersF n 0 xs):=by subst h0;exact HF
   go_wp2_with (fail)
   go_end0
   exact⟨rfl,by rw [←HZE.out];exact HZL.out,by rw [←HZE.out];exact hZ,hg⟩
set_option maxHeartbeats 1000000 in
theorem digits_any (ao:Option Addr) (cap base n:Nat) (sos:Int) (xs:List Int) (w:World) (hl:xs.length=n) (hO:OutAt .i8 22 w base ao cap xs) (hn:n≤2097152) :
 Calls Tryz.prog 220 #[.slice ao n cap,.int .i8 sos] w (RulePost (digitsF n 0 sos xs) n base ao cap w):=by
 have HL:=lh hl
 clear hl
 go_enter Tryz.func220,Tryz.ntmps220
 go_wp2_with (fail)
 go_loopw [1,8] (fun s c wx=>∃(i m:Nat) (zs:List Int) (so:Int),s=.int .i8 so∧i+m=n∧c=.int .i64 i∧zs.length=n∧OutAt .i8 22 wx base ao cap zs∧w.grownBy wx (Value.slice ao n cap).ownBlock∧digitsF m i so zs=digitsF n 0 sos xs) (fun _ c _=>n-(intOf c).toNat)
 case atStart=>exact⟨0,n,xs,sos,rfl,by omega,rfl,HL.out,hO,wk_refl _ _,rfl⟩
 case round =>
  obtain⟨i,m,zs,so,rfl,him,rfl,hzl,hZ,hg,hF⟩:=hrel
  have HIM:=lh him
  have HZL:=lh hzl
  have HF:=lh hF
  clear him hzl hF hO
  by_cases hi:i<n
  ·obtain⟨m,rfl⟩:∃q,m=q+1:=⟨m-1,by have:=HIM.out;omega⟩
   obtain⟨G,rfl,hGb,hGl,hGc,hGf,_,_⟩:=hZ.at i (by have:=HZL.out;omega)
   have hst:∀y,ith zs i=y→digitsF (m+1) i so zs=if y=0∨y=1 then digitsF m (i+1) y zs else if y=3∧so=0 then digitsF m (i+1) so (zs.set i 0) else digitsF m (i+1) so zs:=fun y hy=>by rw [digitsF,hy]
   generalize hy:ith zs i=y at hGc
   have HN:=lh (hst y hy)
   clear hst hy
   by_cases h2:y=0∨y=1
   ·have HN2:=lh (HN.out.trans (if_pos h2))
    rcases h2 with h2 | h2
    ·subst h2
     go_wp2_with (fail)
     all_goals
      go_roundw
      case rel=>exact⟨i+1,m,zs,0,rfl,by have:=HIM.out;omega,by go_num,HZL.out,hZ,hg,by rw [←HF.out,HN2.out]⟩
      case measure=>simp [intOf];omega
    ·subst h2
     go_wp2_with (fail)
     all_goals
      go_roundw
      case rel=>exact⟨i+1,m,zs,1,rfl,by have:=HIM.out;omega,by go_num,HZL.out,hZ,hg,by rw [←HF.out,HN2.out]⟩
      case measure=>simp [intOf];omega
   ·have b0:(y==0)=false:=by simp only [not_or] at h2;simpa using h2.1
    have b1:(y==1)=false:=by simp only [not_or] at h2;simpa using h2.2
    by_cases h3:y=3∧so=0
    ·have HN2:=lh ((HN.out.trans (if_neg h2)).trans (if_pos h3))
     obtain⟨rfl,rfl⟩:=h3
     clear h2
     have HST:=lh (And.intro (hZ.set i 0) (wk_trans hg (World.ownsRow.stored hZ i (.int .i8 0)).2))
     clear hZ hg
     go_wp2_with (fail)
     all_goals
      go_roundw
      case rel=>exact⟨i+1,m,zs.set i 0,0,rfl,by have:=HIM.out;omega,by go_num,by rw [List.length_set];exact HZL.out,HST.out.1,HST.out.2,by rw [←HF.out,HN2.out]⟩
      case measure=>simp [intOf];omega
    ·have HN2:=lh ((HN.out.trans (if_neg h2)).trans (if_neg h3))
     by_cases h4:y=3
     ·have b3:(y==3)=true:=by simpa using h4
      have b5:(so==0)=false:=by simpa using fun e=>h3 ⟨h4,e⟩
      clear h2 h3 h4
      go_wp2_with (fail)
      all_goals
       go_roundw
       case rel=>exact⟨i+1,m,zs,so,rfl,by have:=HIM.out;omega,by go_num,HZL.out,hZ,hg,by rw [←HF.out,HN2.out]⟩
       case measure=>simp [intOf];omega
     ·have b3:(y==3)=false:=by simpa using h4
      clear h2 h3 h4
      go_wp2_with (fail)
      all_goals
       go_roundw
       case rel=>exact⟨i+1,m,zs,so,rfl,by have:=HIM.out;omega,by go_num,HZL.out,hZ,hg,by rw [←HF.out,HN2.out]⟩
       case measure=>simp [intOf];omega
  ·have h0:m=0:=by have:=HIM.out;omega
   have HZE:Hid (zs=digitsF n 0 sos xs):=by subst h0;exact HF
   go_wp2_with (fail)
   go_end0
   exact⟨rfl,by rw [←HZE.out];exact HZL.out,by rw [←HZE.out];exact hZ,hg⟩
set_option maxHeartbeats 1000000 in
theorem arabic_any (ao:Option Addr) (cap base n:Nat) (sos:Int) (xs:List Int) (w:World) (hl:xs.length=n) (hO:OutAt .i8 22 w base ao cap xs) (hn:n≤2097152) :
 Calls Tryz.prog 215 #[.slice ao n cap,.int .i8 sos] w (RulePost (arabicF n 0 sos xs) n base ao cap w):=by
 have HL:=lh hl
 clear hl
 go_enter Tryz.func215,Tryz.ntmps215
 go_wp2_with (fail)
 go_loopw [1,8] (fun s c wx=>∃(i m:Nat) (zs:List Int) (so:Int),s=.int .i8 so∧i+m=n∧c=.int .i64 i∧zs.length=n∧OutAt .i8 22 wx base ao cap zs∧w.grownBy wx (Value.slice ao n cap).ownBlock∧arabicF m i so zs=arabicF n 0 sos xs) (fun _ c _=>n-(intOf c).toNat)
 case atStart=>exact⟨0,n,xs,sos,rfl,by omega,rfl,HL.out,hO,wk_refl _ _,rfl⟩
 case round =>
  obtain⟨i,m,zs,so,rfl,him,rfl,hzl,hZ,hg,hF⟩:=hrel
  have HIM:=lh him
  have HZL:=lh hzl
  have HF:=lh hF
  clear him hzl hF hO
  by_cases hi:i<n
  ·obtain⟨m,rfl⟩:∃q,m=q+1:=⟨m-1,by have:=HIM.out;omega⟩
   obtain⟨G,rfl,hGb,hGl,hGc,hGf,_,_⟩:=hZ.at i (by have:=HZL.out;omega)
   have hst:∀y,ith zs i=y→arabicF (m+1) i so zs=if y=0∨y=1∨y=2 then arabicF m (i+1) y zs else if y=3∧so=2 then arabicF m (i+1) so (zs.set i 6) else arabicF m (i+1) so zs:=fun y hy=>by rw [arabicF,hy]
   generalize hy:ith zs i=y at hGc
   have HN:=lh (hst y hy)
   clear hst hy
   by_cases h2:y=0∨y=1∨y=2
   ·have HN2:=lh (HN.out.trans (if_pos h2))
    rcases h2 with h2 | h2 | h2
    ·subst h2
     go_wp2_with (fail)
     all_goals
      go_roundw
      case rel=>exact⟨i+1,m,zs,0,rfl,by have:=HIM.out;omega,by go_num,HZL.out,hZ,hg,by rw [←HF.out,HN2.out]⟩
      case measure=>simp [intOf];omega
    ·subst h2
     go_wp2_with (fail)
     all_goals
      go_roundw
      case rel=>exact⟨i+1,m,zs,1,rfl,by have:=HIM.out;omega,by go_num,HZL.out,hZ,hg,by rw [←HF.out,HN2.out]⟩
      case measure=>simp [intOf];omega
    ·subst h2
     go_wp2_with (fail)
     all_goals
      go_roundw
      case rel=>exact⟨i+1,m,zs,2,rfl,by have:=HIM.out;omega,by go_num,HZL.out,hZ,hg,by rw [←HF.out,HN2.out]⟩
      case measure=>simp [intOf];omega
   ·have b0:(y==0)=false:=by simp only [not_or] at h2;simpa using h2.1
    have b1:(y==1)=false:=by simp only [not_or] at h2;simpa using h2.2.1
    have b2:(y==2)=false:=by simp only [not_or] at h2;simpa using h2.2.2
    by_cases h3:y=3∧so=2
    ·have HN2:=lh ((HN.out.trans (if_neg h2)).trans (if_pos h3))
     obtain⟨rfl,rfl⟩:=h3
     clear h2
     have HST:=lh (And.intro (hZ.set i 6) (wk_trans hg (World.ownsRow.stored hZ i (.int .i8 6)).2))
     clear hZ hg
     go_wp2_with (fail)
     all_goals
      go_roundw
      case rel=>exact⟨i+1,m,zs.set i 6,2,rfl,by have:=HIM.out;omega,by go_num,by rw [List.length_set];exact HZL.out,HST.out.1,HST.out.2,by rw [←HF.out,HN2.out]⟩
      case measure=>simp [intOf];omega
    ·have HN2:=lh ((HN.out.trans (if_neg h2)).trans (if_neg h3))
     by_cases h4:y=3
     ·have b3:(y==3)=true:=by simpa using h4
      have b5:(so==2)=false:=by simpa using fun e=>h3 ⟨h4,e⟩
      clear h2 h3 h4
      go_wp2_with (fail)
      all_goals
       go_roundw
       case rel=>exact⟨i+1,m,zs,so,rfl,by have:=HIM.out;omega,by go_num,HZL.out,hZ,hg,by rw [←HF.out,HN2.out]⟩
       case measure=>simp [intOf];omega
     ·have b3:(y==3)=false:=by simpa using h4
      clear h2 h3 h4
      go_wp2_with (fail)
      all_goals
       go_roundw
       case rel=>exact⟨i+1,m,zs,so,rfl,by have:=HIM.out;omega,by go_num,HZL.out,hZ,hg,by rw [←HF.out,HN2.out]⟩
       case measure=>simp [intOf];omega
  ·have h0:m=0:=by have:=HIM.out;omega
   have HZE:Hid (zs=arabicF n 0 sos xs):=by subst h0;exact HF
   go_wp2_with (fail)
   go_end0
   exact⟨rfl,by rw [←HZE.out];exact HZL.out,by rw [←HZE.out];exact hZ,hg⟩
set_option maxHeartbeats 1000000 in
theorem marks_any (ao:Option Addr) (cap base n:Nat) (sos:Int) (xs:List Int) (w:World) (hl:xs.length=n) (hO:OutAt .i8 22 w base ao cap xs) (hn:n≤2097152) :
 Calls Tryz.prog 214 #[.slice ao n cap,.int .i8 sos] w (RulePost (marksF n 0 sos xs) n base ao cap w):=by
 have HL:=lh hl
 clear hl
 go_enter Tryz.func214,Tryz.ntmps214
 go_wp2_with (fail)
 go_loopw [1,8] (fun s c wx=>∃(i m:Nat) (zs:List Int) (so:Int),s=.int .i8 so∧i+m=n∧c=.int .i64 i∧zs.length=n∧OutAt .i8 22 wx base ao cap zs∧w.grownBy wx (Value.slice ao n cap).ownBlock∧marksF m i so zs=marksF n 0 sos xs) (fun _ c _=>n-(intOf c).toNat)
 case atStart=>exact⟨0,n,xs,sos,rfl,by omega,rfl,HL.out,hO,wk_refl _ _,rfl⟩
 case round =>
  obtain⟨i,m,zs,so,rfl,him,rfl,hzl,hZ,hg,hF⟩:=hrel
  have HIM:=lh him
  have HZL:=lh hzl
  have HF:=lh hF
  clear him hzl hF hO
  by_cases hi:i<n
  ·obtain⟨m,rfl⟩:∃q,m=q+1:=⟨m-1,by have:=HIM.out;omega⟩
   obtain⟨G,rfl,hGb,hGl,hGc,hGf,_,_⟩:=hZ.at i (by have:=HZL.out;omega)
   have hst:∀y,ith zs i=y→marksF (m+1) i so zs=if y=8 then marksF m (i+1) (if 19≤so∧so≤22 then 13 else so) (zs.set i so) else marksF m (i+1) (if 19≤y∧y≤22 then 13 else y) zs:=fun y hy=>by rw [marksF,hy]
   generalize hy:ith zs i=y at hGc
   have HN:=lh (hst y hy)
   clear hst hy
   by_cases h2:y=8
   ·have HN2:=lh (HN.out.trans (if_pos h2))
    subst h2
    by_cases hs:19≤so∧so≤22
    ·have HN3:=lh (HN2.out.trans (by rw [if_pos hs]))
     rcases (show so=19∨so=20∨so=21∨so=22 by omega) with h | h | h | h
     ·subst h
      clear hs
      have HST:=lh (And.intro (hZ.set i 19) (wk_trans hg (World.ownsRow.stored hZ i (.int .i8 19)).2))
      clear hZ hg
      go_wp2_with (fail)
      all_goals
       go_roundw
       case rel=>exact⟨i+1,m,zs.set i 19,13,rfl,by have:=HIM.out;omega,by go_num,by rw [List.length_set];exact HZL.out,HST.out.1,HST.out.2,by rw [←HF.out,HN3.out]⟩
       case measure=>simp [intOf];omega
     ·subst h
      clear hs
      have HST:=lh (And.intro (hZ.set i 20) (wk_trans hg (World.ownsRow.stored hZ i (.int .i8 20)).2))
      clear hZ hg
      go_wp2_with (fail)
      all_goals
       go_roundw
       case rel=>exact⟨i+1,m,zs.set i 20,13,rfl,by have:=HIM.out;omega,by go_num,by rw [List.length_set];exact HZL.out,HST.out.1,HST.out.2,by rw [←HF.out,HN3.out]⟩
       case measure=>simp [intOf];omega
     ·subst h
      clear hs
      have HST:=lh (And.intro (hZ.set i 21) (wk_trans hg (World.ownsRow.stored hZ i (.int .i8 21)).2))
      clear hZ hg
      go_wp2_with (fail)
      all_goals
       go_roundw
       case rel=>exact⟨i+1,m,zs.set i 21,13,rfl,by have:=HIM.out;omega,by go_num,by rw [List.length_set];exact HZL.out,HST.out.1,HST.out.2,by rw [←HF.out,HN3.out]⟩
       case measure=>simp [intOf];omega
     ·subst h
      clear hs
      have HST:=lh (And.intro (hZ.set i 22) (wk_trans hg (World.ownsRow.stored hZ i (.int .i8 22)).2))
      clear hZ hg
      go_wp2_with (fail)
      all_goals
       go_roundw
       case rel=>exact⟨i+1,m,zs.set i 22,13,rfl,by have:=HIM.out;omega,by go_num,by rw [List.length_set];exact HZL.out,HST.out.1,HST.out.2,by rw [←HF.out,HN3.out]⟩
       case measure=>simp [intOf];omega
    ·have HN3:=lh (HN2.out.trans (by rw [if_neg hs]))
     have c19:(so==19)=false:=by simp only [beq_eq_false_iff_ne];omega
     have c20:(so==20)=false:=by simp only [beq_eq_false_iff_ne];omega
     have c21:(so==21)=false:=by simp only [beq_eq_false_iff_ne];omega
     have c22:(so==22)=false:=by simp only [beq_eq_false_iff_ne];omega
     clear hs
     have HST:=lh (And.intro (hZ.set i so) (wk_trans hg (World.ownsRow.stored hZ i (.int .i8 so)).2))
     clear hZ hg
     go_wp2_with (fail)
     all_goals
      go_roundw
      case rel=>exact⟨i+1,m,zs.set i so,so,rfl,by have:=HIM.out;omega,by go_num,by rw [List.length_set];exact HZL.out,HST.out.1,HST.out.2,by rw [←HF.out,HN3.out]⟩
      case measure=>simp [intOf];omega
   ·have b8:(y==8)=false:=by simpa using h2
    have HN2:=lh (HN.out.trans (if_neg h2))
    clear h2
    by_cases hs:19≤y∧y≤22
    ·have HN3:=lh (HN2.out.trans (by rw [if_pos hs]))
     rcases (show y=19∨y=20∨y=21∨y=22 by omega) with h | h | h | h
     ·subst h
      clear hs
      go_wp2_with (fail)
      all_goals
       go_roundw
       case rel=>exact⟨i+1,m,zs,13,rfl,by have:=HIM.out;omega,by go_num,HZL.out,hZ,hg,by rw [←HF.out,HN3.out]⟩
       case measure=>simp [intOf];omega
     ·subst h
      clear hs
      go_wp2_with (fail)
      all_goals
       go_roundw
       case rel=>exact⟨i+1,m,zs,13,rfl,by have:=HIM.out;omega,by go_num,HZL.out,hZ,hg,by rw [←HF.out,HN3.out]⟩
       case measure=>simp [intOf];omega
     ·subst h
      clear hs
      go_wp2_with (fail)
      all_goals
       go_roundw
       case rel=>exact⟨i+1,m,zs,13,rfl,by have:=HIM.out;omega,by go_num,HZL.out,hZ,hg,by rw [←HF.out,HN3.out]⟩
       case measure=>simp [intOf];omega
     ·subst h
      clear hs
      go_wp2_with (fail)
      all_goals
       go_roundw
       case rel=>exact⟨i+1,m,zs,13,rfl,by have:=HIM.out;omega,by go_num,HZL.out,hZ,hg,by rw [←HF.out,HN3.out]⟩
       case measure=>simp [intOf];omega
    ·have HN3:=lh (HN2.out.trans (by rw [if_neg hs]))
     have c19:(y==19)=false:=by simp only [beq_eq_false_iff_ne];omega
     have c20:(y==20)=false:=by simp only [beq_eq_false_iff_ne];omega
     have c21:(y==21)=false:=by simp only [beq_eq_false_iff_ne];omega
     have c22:(y==22)=false:=by simp only [beq_eq_false_iff_ne];omega
     clear hs
     go_wp2_with (fail)
     all_goals
      go_roundw
      case rel=>exact⟨i+1,m,zs,y,rfl,by have:=HIM.out;omega,by go_num,HZL.out,hZ,hg,by rw [←HF.out,HN3.out]⟩
      case measure=>simp [intOf];omega
  ·have h0:m=0:=by have:=HIM.out;omega
   have HZE:Hid (zs=marksF n 0 sos xs):=by subst h0;exact HF
   go_wp2_with (fail)
   go_end0
   exact⟨rfl,by rw [←HZE.out];exact HZL.out,by rw [←HZE.out];exact hZ,hg⟩
set_option maxHeartbeats 1000000 in
theorem separators_any (ao:Option Addr) (cap base n:Nat) (sos:Int) (xs:List Int) (w:World) (hl:xs.length=n) (hO:OutAt .i8 22 w base ao cap xs) (hn:n≤2097152) :
 Calls Tryz.prog 217 #[.slice ao n cap,.int .i8 sos] w (RulePost (sepF (n-2) 1 xs) n base ao cap w):=by
 have HL:=lh hl
 clear hl
 go_enter Tryz.func217,Tryz.ntmps217
 go_wp2_with (fail)
 go_loopw [4] (fun c wx=>∃(i:Nat) (zs:List Int),i≤n+1∧c=.int .i64 ((i+1:Nat):Int)∧zs.length=n∧OutAt .i8 22 wx base ao cap zs∧w.grownBy wx (Value.slice ao n cap).ownBlock∧sepF (n-2-i) (i+1) zs=sepF (n-2) 1 xs) (fun c _=>n+2-(intOf c).toNat)
 case atStart=>exact⟨0,xs,by omega,rfl,HL.out,hO,wk_refl _ _,rfl⟩
 case round =>
  obtain⟨i,zs,hiM,rfl,hzl,hZ,hg,hF⟩:=hrel
  have HZL:=lh hzl
  have HF:=lh hF
  clear hzl hF hO
  by_cases hi:i+2<n
  ·obtain⟨G,rfl,hGb,hGl,hGc,hGf,_,_⟩:=hZ.at (i+1) (by have:=HZL.out;omega)
   obtain⟨G',hG',_,_,hGa,_⟩:=hZ.at i (by have:=HZL.out;omega)
   cases hG'
   obtain⟨G',hG',_,_,hGn,_⟩:=hZ.at (i+2) (by have:=HZL.out;omega)
   cases hG'
   have hst:∀a y b,ith zs i=a→ith zs (i+1)=y→ith zs (i+2)=b→sepF (n-2-i) (i+1) zs=if a=b∧(a=3∨a=6)∧(y=7∨(y=4∧a=3)) then sepF (n-2-(i+1)) (i+1+1) (zs.set (i+1) a) else sepF (n-2-(i+1)) (i+1+1) zs:=fun a y b ha hy hb=>by
    rw [show n-2-i=(n-2-(i+1))+1 by omega,sepF,Nat.add_sub_cancel,show i+1+1=i+2 by omega,ha,hy,hb]
   generalize ha:ith zs i=a at hGa
   generalize hy:ith zs (i+1)=y at hGc
   generalize hb:ith zs (i+2)=b at hGn
   have HN:=lh (hst a y b ha hy hb)
   clear hst ha hy hb
   by_cases hc:a=b∧(a=3∨a=6)∧(y=7∨(y=4∧a=3))
   ·have HN2:=lh (HN.out.trans (if_pos hc))
    obtain⟨rfl,hc2,hc3⟩:=hc
    have HST:=lh (And.intro (hZ.set (i+1) a) (wk_trans hg (World.ownsRow.stored hZ (i+1) (.int .i8 a)).2))
    clear hZ hg
    rcases hc2 with rfl | rfl <;> rcases hc3 with rfl | ⟨rfl,h3⟩
    all_goals
     first
      | (exfalso;revert h3;decide)
      | (go_wp2_with (fail)
         go_roundw
         case rel=>exact⟨i+1,_,by omega,by go_num,by rw [List.length_set];exact HZL.out,HST.out.1,HST.out.2,by rw [←HF.out,HN2.out]⟩
         case measure=>simp [intOf];omega)
   ·have HN2:=lh (HN.out.trans (if_neg hc))
    by_cases hab:a=b
    ·subst hab
     by_cases h3:a=3
     ·subst h3
      have b7:(y==7)=false:=by simpa using fun e=>hc ⟨rfl,.inl rfl,.inl e⟩
      have b4:(y==4)=false:=by simpa using fun e=>hc ⟨rfl,.inl rfl,.inr ⟨e,rfl⟩⟩
      clear hc
      go_wp2_with (fail)
      go_roundw
      case rel=>exact⟨i+1,zs,by omega,by go_num,HZL.out,hZ,hg,by rw [←HF.out,HN2.out]⟩
      case measure=>simp [intOf];omega
     ·by_cases h6:a=6
      ·subst h6
       have b7:(y==7)=false:=by simpa using fun e=>hc ⟨rfl,.inr rfl,.inl e⟩
       clear hc h3
       by_cases h4:y=4
       ·subst h4
        go_wp2_with (fail)
        go_roundw
        case rel=>exact⟨i+1,zs,by omega,by go_num,HZL.out,hZ,hg,by rw [←HF.out,HN2.out]⟩
        case measure=>simp [intOf];omega
       ·have b4:(y==4)=false:=by simpa using h4
        clear h4
        go_wp2_with (fail)
        go_roundw
        case rel=>exact⟨i+1,zs,by omega,by go_num,HZL.out,hZ,hg,by rw [←HF.out,HN2.out]⟩
        case measure=>simp [intOf];omega
      ·have c3:(a != 3)=true:=by simpa using h3
       have c6:(a != 6)=true:=by simpa using h6
       clear hc h3 h6
       go_wp2_with (fail)
       go_roundw
       case rel=>exact⟨i+1,zs,by omega,by go_num,HZL.out,hZ,hg,by rw [←HF.out,HN2.out]⟩
       case measure=>simp [intOf];omega
    ·have cab:(a != b)=true:=by simpa using hab
     clear hc hab
     go_wp2_with (fail)
     go_roundw
     case rel=>exact⟨i+1,zs,by omega,by go_num,HZL.out,hZ,hg,by rw [←HF.out,HN2.out]⟩
     case measure=>simp [intOf];omega
  ·have HZE:Hid (zs=sepF (n-2) 1 xs):=by
    have:=HF.out
    rw [show n-2-i=0 by omega] at this
    exact this
   go_wp2_with (fail)
   go_end0
   exact⟨rfl,by rw [←HZE.out];exact HZL.out,by rw [←HZE.out];exact hZ,hg⟩
end
end Go.Proofs.YtlmjbfncopbilaaGreatDoor
