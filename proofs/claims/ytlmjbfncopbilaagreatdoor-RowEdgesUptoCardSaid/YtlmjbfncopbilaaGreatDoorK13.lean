/- Part 13 (merged by a program): lemmas of no further condition than each states. -/
import Derived.Test.YtlmjbfncopbilaaGreatDoorK12
namespace Go.Proofs.YtlmjbfncopbilaaGreatDoor
set_option linter.unusedVariables false
set_option linter.unusedSimpArgs false
section
open Go.RowKit
theorem wp_scope_again {P:Program} {a:Act} {w:World} {Q:Exit→Act→World→Prop} {x rest:Code} (l:Nat) (J:Act→World→Prop) (μ:Act→World→Nat) (hx:findLabel x l=none)
 (first:x.wp P (fun e a w=>e=.normal∧J a w) a w)
 (pass:∀a w,J a w→rest.wp P (Exit.jump l (fun a' w'=>J a' w'∧μ a' w'<μ a w) Q) a w):(Code.scope (.seq x (.seq (.label l) rest))).wp P Q a w:=by
 have hp:∀a w,J a w→(Code.seq .skip rest).wp P (Exit.jump l (fun a' w'=>J a' w'∧μ a' w'<μ a w) Q) a w:=fun a w h=>by
  apply wp_seq
  apply wp_skip
  exact pass a w h
 refine wp_scope_jumps (rest:=.seq .skip rest) l J μ (by simp [findLabel,hx]) ?_ hp
 apply wp_seq
 refine Code.wp_mono (fun e a w h=>?_) first
 obtain⟨rfl,hJ⟩:=h
 show Code.wp P _ _ a w
 apply wp_seq
 apply wp_label
 show Code.wp P _ _ a w
 refine Code.wp_mono (fun e a' w' h=>?_) (pass a w hJ)
 cases e <;> first | exact h | exact⟨h.1,h.2.1⟩
theorem own_slice2 {k:IntKind} {e base cap:Nat} {w:World} {ao:Option Addr} {out:List Int} (h:OutAt k e w base ao cap out):out.length≤cap∧cap≤maxLen:=by
 rcases h.2 with ⟨h1,h0⟩ | ⟨g,cap',cur,h1,hb,hh,hc,hm,hs,ht⟩
 ·simp only [Value.slice.injEq] at h1;unfold maxLen;omega
 ·simp only [Value.slice.injEq] at h1;obtain⟨_,_,rfl⟩:=h1;exact⟨hc,hm⟩
theorem seekF_bd (b:Bool) (l:List Int):∀(m i:Nat),i≤seekF b l m i∧seekF b l m i≤i+m
 | 0,i=>⟨Nat.le_refl _,Nat.le_refl _⟩
 | m+1,i=>by
   unfold seekF
   split
   ·omega
   ·have:=seekF_bd b l m (i+1);omega
theorem seekF_at (b:Bool) (l:List Int):∀(m i:Nat),seekF b l m i<i+m→decide (ith l (seekF b l m i)=5)=b
 | 0,i,h=>by unfold seekF at h;omega
 | m+1,i,h=>by
   unfold seekF at h ⊢
   split
   ·assumption
   ·rename_i h2
    rw [if_neg h2] at h
    exact seekF_at b l m (i+1) (by omega)
def TermJ (n base:Nat) (ao:Option Addr) (cap:Nat) (sos:Int) (xs:List Int) (w0:World) (a':Act) (wx:World):Prop :=
 ∃(i f:Nat) (zs:List Int),(∃(u2 u3 u5 u6 u7 u8 u9 u10 u11 u12 u13 u14 u15 u16 u17 u18 u19 u20 u21 u22 u23 u24 u25 u26 u27 u28 u29 u30 u31 u32 u33 u34 u35 u36 u37 u38 u39 u40 u41 u42 u43 u44 u45 u46 u47 u48 u49 u50 u51 u52 u53 u54 u55 u56 u57 u58 u59 u60 u61 u62 u63 u64 u65 u66 u67 u68 u69 u70 u71 u72 u73 u74:Value),a'={ tmps:=#[.slice ao n cap,.int .i8 sos,u2,u3,.int .i64 (i:Nat),u5,u6,u7,u8,u9,u10,u11,u12,u13,u14,u15,u16,u17,u18,u19,u20,u21,u22,u23,u24,u25,u26,u27,u28,u29,u30,u31,u32,u33,u34,u35,u36,u37,u38,u39,u40,u41,u42,u43,u44,u45,u46,u47,u48,u49,u50,u51,u52,u53,u54,u55,u56,u57,u58,u59,u60,u61,u62,u63,u64,u65,u66,u67,u68,u69,u70,u71,u72,u73,u74],defers:=[] })∧i≤n∧zs.length=n∧OutAt .i8 22 wx base ao cap zs∧w0.grownBy wx (Value.slice ao n cap).ownBlock∧n-i<f∧termF f i zs=termF (n+1) 0 xs
set_option maxRecDepth 100000 in
set_option maxHeartbeats 1000000 in
theorem terminators_any (ao:Option Addr) (cap base n:Nat) (sos:Int) (xs:List Int) (w:World) (hl:xs.length=n) (hO:OutAt .i8 22 w base ao cap xs) (hn:n≤2097152) :
 Calls Tryz.prog 218 #[.slice ao n cap,.int .i8 sos] w (RulePost (termF (n+1) 0 xs) n base ao cap w):=by
 have HL:=lh hl
 clear hl
 have hcap:=(own_slice2 hO).1
 go_enter Tryz.func218,Tryz.ntmps218
 refine wp_scope_again 0 (TermJ n base ao cap sos xs w) (fun a' _=>n-(intOf (a'.tmps.getD 4 undef)).toNat) (by rfl) ?_ ?_
 ·go_wp2_with (fail)
  exact⟨0,n+1,xs,⟨_,_,_,_,_,_,_,_,_,_,_,_,_,_,_,_,_,_,_,_,_,_,_,_,_,_,_,_,_,_,_,_,_,_,_,_,_,_,_,_,_,_,_,_,_,_,_,_,_,_,_,_,_,_,_,_,_,_,_,_,_,_,_,_,_,_,_,_,_,_,_,_,rfl⟩,by omega,HL.out,hO,wk_refl _ _,by omega,rfl⟩
 ·rintro a' wr ⟨i,f,zs,⟨u2,u3,u5,u6,u7,u8,u9,u10,u11,u12,u13,u14,u15,u16,u17,u18,u19,u20,u21,u22,u23,u24,u25,u26,u27,u28,u29,u30,u31,u32,u33,u34,u35,u36,u37,u38,u39,u40,u41,u42,u43,u44,u45,u46,u47,u48,u49,u50,u51,u52,u53,u54,u55,u56,u57,u58,u59,u60,u61,u62,u63,u64,u65,u66,u67,u68,u69,u70,u71,u72,u73,u74,rfl⟩,hin,hzl,hZ,hg,hf,hF⟩
  clear hO
  have HZL:=lh hzl
  have HF:=lh hF
  clear hzl hF
  obtain⟨f,rfl⟩:∃g,f=g+1:=⟨f-1,by omega⟩
  obtain⟨A,hA⟩:∃A,seekF true zs (n-i) i=A:=⟨_,rfl⟩
  have hA1:=seekF_bd true zs (n-i) i
  have hA5:=seekF_at true zs (n-i) i
  rw [hA] at hA1 hA5
  obtain⟨B,hB⟩:∃B,seekF false zs (n-A) A=B:=⟨_,rfl⟩
  have hB1:=seekF_bd false zs (n-A) A
  rw [hB] at hB1
  have hAB:A<n→A+1≤B:=fun h=>by
   have h5:=hA5 (by omega)
   obtain⟨q,hq⟩:∃q,n-A=q+1:=⟨n-A-1,by omega⟩
   rw [hq,seekF,if_neg (by rw [h5];decide)] at hB
   have:=seekF_bd false zs q (A+1)
   omega
  have hstep:termF (f+1) i zs=if A=n then zs else if (0<A∧ith zs (A-1)=3)∨(B<n∧ith zs B=3) then termF f B (fillW 3 (B-A) A zs) else termF f B zs:=by
   rw [termF]
   simp only [HZL.out,hA,hB]
  have HST:=lh hstep
  have HA:=lh hA
  have HB:=lh hB
  have HAB:=lh hAB
  have HC:=lh (fun j (hj:j<n)=>hZ.at j (by have:=HZL.out;omega))
  clear hstep hA hB hAB hA5
  have hA2:A≤n:=by omega
  have hB2:B≤n:=by omega
  have hB3:A≤B:=hB1.1
  have hA3:i≤A:=hA1.1
  clear hA1 hB1
  go_wp2_with (fail)
  go_loopw [4] (fun c wx=>wx=wr∧∃(j m:Nat),j+m=n∧i≤j∧c=.int .i64 j∧seekF true zs m j=A) (fun c _=>n-(intOf c).toNat)
  case atStart=>exact⟨rfl,i,n-i,by omega,Nat.le_refl _,rfl,HA.out⟩
  case round =>
   obtain⟨hwx,j,m,hjm,hij,rfl,hS⟩:=hrel
   have hwx':=hwx.symm
   clear hwx
   subst hwx'
   have HJM:=lh hjm
   have HS:=lh hS
   clear hjm hS
   by_cases hgo:j<n∧ith zs j≠5
   ·obtain⟨hj,h5⟩:=hgo
    obtain⟨m,rfl⟩:∃q,m=q+1:=⟨m-1,by have:=HJM.out;omega⟩
    obtain⟨G,rfl,_,_,hGc,_⟩:=HC.out j hj
    have hs1:∀y,ith zs j=y→seekF true zs (m+1) j=if decide (y=5)=true then j else seekF true zs m (j+1):=fun y hy=>by rw [seekF,hy]
    generalize hy:ith zs j=y at hGc h5
    have HS1:=lh ((hs1 y hy).trans (if_neg (by simpa using h5)))
    have c5:(y != 5)=true:=by simpa using h5
    clear hs1 hy h5
    go_wp2_with (fail)
    go_roundw
    case rel=>exact⟨trivial,j+1,m,by have:=HJM.out;omega,by omega,by go_num,by rw [←HS.out,HS1.out]⟩
    case measure=>simp [intOf];omega
   ·have HJE:Hid (j=A):=by
     have h1:=HS.out
     have h2:=HJM.out
     cases m with
     | zero=>exact h1
     | succ m =>
       rw [seekF,if_pos (by
        have:ith zs j=5:=by
         by_cases h:ith zs j=5
         ·exact h
         ·exact absurd ⟨by omega,h⟩ hgo
        rw [this];decide)] at h1
       exact h1
    go_upto_region 1 with (fail)
    go_cut [17] (fun t wx=>t=.bool false∧wx=wr)
    case first =>
     by_cases hj:j<n
     ·obtain⟨G,rfl,_,_,hGc,_⟩:=HC.out j hj
      have h5:ith zs j=5:=by
       by_cases h:ith zs j=5
       ·exact h
       ·exact absurd ⟨hj,h⟩ hgo
      rw [h5] at hGc
      clear hgo
      go_wp2_with (fail)
      all_goals (go_meet;exact⟨rfl,rfl⟩)
     ·clear hgo
      go_wp2_with (fail)
      all_goals (go_meet;exact⟨rfl,rfl⟩)
    case rest =>
     obtain⟨rfl,hwx⟩:=hcut
     have hwx':=hwx.symm
     clear hwx
     subst hwx'
     clear hgo HS HJM
     have h:=HJE.out
     clear HJE
     subst h
     by_cases hjn:j=n
     ·have HZE:Hid (zs=termF (n+1) 0 xs):=(HST.out.trans (if_pos hjn)).symm.trans HF.out
      have cb:((j:Int)==(n:Int))=true:=by rw [hjn];simp
      clear hjn HST
      go_wp2_with (fail)
      simp only [Exit.jump]
      go_end0
      exact⟨rfl,by rw [←HZE.out];exact HZL.out,by rw [←HZE.out];exact hZ,hg⟩
     ·have HS2:=lh (HST.out.trans (if_neg hjn))
      have cb:((j:Int)==(n:Int))=false:=by simp only [beq_eq_false_iff_ne];omega
      have hjlt:j<n:=by omega
      have hBj:=HAB.out hjlt
      clear hjn HST HAB
      go_wp2_with (fail)
      go_loopw [4] (fun c wx=>wx=wr∧∃(q m:Nat),q+m=n∧j≤q∧c=.int .i64 q∧seekF false zs m q=B) (fun c _=>n-(intOf c).toNat)
      case atStart=>exact⟨rfl,j,n-j,by omega,Nat.le_refl _,rfl,HB.out⟩
      case round =>
       obtain⟨hwx,q,m,hqm,hjq,rfl,hS⟩:=hrel
       have hwx':=hwx.symm
       clear hwx
       subst hwx'
       have HQM:=lh hqm
       have HS:=lh hS
       clear hqm hS
       by_cases hgo:q<n∧ith zs q=5
       ·obtain⟨hq,h5⟩:=hgo
        obtain⟨m,rfl⟩:∃r,m=r+1:=⟨m-1,by have:=HQM.out;omega⟩
        obtain⟨G,rfl,_,_,hGc,_⟩:=HC.out q hq
        have hs1:∀y,ith zs q=y→seekF false zs (m+1) q=if decide (y=5)=false then q else seekF false zs m (q+1):=fun y hy=>by rw [seekF,hy]
        rw [h5] at hGc
        have HS1:=lh ((hs1 5 h5).trans (if_neg (by decide)))
        clear hs1 h5
        go_wp2_with (fail)
        go_roundw
        case rel=>exact⟨trivial,q+1,m,by have:=HQM.out;omega,by omega,by go_num,by rw [←HS.out,HS1.out]⟩
        case measure=>simp [intOf];omega
       ·have HQE:Hid (q=B):=by
         have h1:=HS.out
         have h2:=HQM.out
         cases m with
         | zero=>exact h1
         | succ m =>
           rw [seekF,if_pos (decide_eq_false (fun h=>hgo ⟨by omega,h⟩))] at h1
           exact h1
        go_upto_region 5 with (fail)
        go_cut [35] (fun t wx=>t=.bool false∧wx=wr)
        case first =>
         by_cases hq:q<n
         ·obtain⟨G,rfl,_,_,hGc,_⟩:=HC.out q hq
          have h5:(ith zs q==5)=false:=by simpa using fun h=>hgo ⟨hq,h⟩
          generalize ith zs q=y at hGc h5
          clear hgo
          go_wp2_with (fail)
          all_goals (go_meet;exact⟨rfl,rfl⟩)
         ·clear hgo
          go_wp2_with (fail)
          all_goals (go_meet;exact⟨rfl,rfl⟩)
        case rest =>
         obtain⟨rfl,hwx⟩:=hcut
         have hwx':=hwx.symm
         clear hwx
         subst hwx'
         clear hgo HS HQM
         have h:=HQE.out
         clear HQE
         subst h
         obtain⟨C,hC⟩:∃C:Bool,decide ((0<j∧ith zs (j-1)=3)∨(q<n∧ith zs q=3))=C:=⟨_,rfl⟩
         have HCC:=lh hC
         clear hC
         go_upto_region 7 with (fail)
         go_cut [60] (fun t wx=>t=.bool C∧wx=wr)
         case first =>
          by_cases h1:0<j∧ith zs (j-1)=3
          ·have HT:=lh (HCC.out.symm.trans (decide_eq_true (.inl h1)))
           obtain⟨h0,h3⟩:=h1
           obtain⟨G,rfl,_,_,hGc,_⟩:=HC.out (j-1) (by omega)
           rw [h3] at hGc
           obtain⟨j',rfl⟩:∃j',j=j'+1:=⟨j-1,by omega⟩
           rw [Nat.add_sub_cancel] at hGc
           clear h3
           go_wp2_with (fail)
           all_goals (go_meet;exact⟨by rw [HT.out],rfl⟩)
          ·have HP:Hid (C=decide (q<n∧ith zs q=3)):=HCC.out.symm.trans (decide_eq_decide.2 ⟨fun h=>h.resolve_left h1,.inr⟩)
           by_cases hq:q<n
           ·obtain⟨G,hao,_,_,hGc,_⟩:=HC.out q hq
            subst hao
            have HP2:=lh (HP.out.trans (show decide (q<n∧ith zs q=3)=(ith zs q==3) from Bool.eq_iff_iff.2 (by simp [hq])))
            generalize ith zs q=y at hGc HP2
            by_cases h0:0<j
            ·obtain⟨G',hG',_,_,hGd,_⟩:=HC.out (j-1) (by omega)
             cases hG'
             obtain⟨j',rfl⟩:∃j',j=j'+1:=⟨j-1,by omega⟩
             rw [Nat.add_sub_cancel] at hGd h1
             have h3:(ith zs j'==3)=false:=by simpa using fun h=>h1 ⟨h0,h⟩
             generalize ith zs j'=z at hGd h3
             clear h1
             go_wp2_with (fail)
             all_goals (go_meet;exact⟨by rw [HP2.out],rfl⟩)
            ·clear h1
             go_wp2_with (fail)
             all_goals (go_meet;exact⟨by rw [HP2.out],rfl⟩)
           ·have HP2:=lh (HP.out.trans (decide_eq_false (fun h=>hq h.1)))
            by_cases h0:0<j
            ·obtain⟨G',hG',_,_,hGd,_⟩:=HC.out (j-1) (by omega)
             subst hG'
             obtain⟨j',rfl⟩:∃j',j=j'+1:=⟨j-1,by omega⟩
             rw [Nat.add_sub_cancel] at hGd h1
             have h3:(ith zs j'==3)=false:=by simpa using fun h=>h1 ⟨h0,h⟩
             generalize ith zs j'=z at hGd h3
             clear h1
             go_wp2_with (fail)
             all_goals (go_meet;exact⟨by rw [HP2.out],rfl⟩)
            ·clear h1
             go_wp2_with (fail)
             all_goals (go_meet;exact⟨by rw [HP2.out],rfl⟩)
         case rest =>
          obtain⟨rfl,hwx⟩:=hcut
          have hwx':=hwx.symm
          clear hwx
          subst hwx'
          have hfq:n-q<f:=by omega
          have hqc:(q:Int)≤(cap:Int):=by have h1:=HL.out;omega
          cases C with
          | false =>
            have HN:=lh (HS2.out.trans (if_neg (of_decide_eq_false HCC.out)))
            clear HS2 HCC
            go_wp2_with (fail)
            go_step3
            exact⟨rfl,⟨q,f,zs,⟨_,_,_,_,_,_,_,_,_,_,_,_,_,_,_,_,_,_,_,_,_,_,_,_,_,_,_,_,_,_,_,_,_,_,_,_,_,_,_,_,_,_,_,_,_,_,_,_,_,_,_,_,_,_,_,_,_,_,_,_,_,_,_,_,_,_,_,_,_,_,_,_,rfl⟩,hB2,HZL.out,hZ,hg,hfq,HN.out.symm.trans HF.out⟩,by simp [intOf];omega⟩
          | true =>
            have HN:=lh (HS2.out.trans (if_pos (of_decide_eq_true HCC.out)))
            clear HS2 HCC
            go_wp2_with (fail)
            go_loopw [66] (fun c wx=>∃(k d:Nat) (ys:List Int),k+d=q-j∧c=.int .i64 k∧ys.length=n∧OutAt .i8 22 wx base ao cap ys∧w.grownBy wx (Value.slice ao n cap).ownBlock∧fillW 3 d (j+k) ys=fillW 3 (q-j) j zs) (fun c _=>q-j-(intOf c).toNat)
            case atStart=>exact⟨0,q-j,zs,by omega,rfl,HZL.out,hZ,hg,rfl⟩
            case round =>
             obtain⟨k,d,ys,hkd,rfl,hyl,hY,hgY,hFY⟩:=hrel
             have HKD:=lh hkd
             have HYL:=lh hyl
             have HFY:=lh hFY
             clear hkd hyl hFY hZ hg HC
             by_cases hk:k<q-j
             ·obtain⟨d,rfl⟩:∃d',d=d'+1:=⟨d-1,by have:=HKD.out;omega⟩
              obtain⟨G,rfl,_,_,hGc,hGf,_,_⟩:=hY.at (j+k) (by have:=HYL.out;omega)
              have HSTT:=lh (And.intro (hY.set (j+k) 3) (wk_trans hgY (World.ownsRow.stored hY (j+k) (.int .i8 3)).2))
              clear hY hgY
              go_wp2_with (fail)
              go_roundw
              case rel=>exact⟨k+1,d,ys.set (j+k) 3,by have:=HKD.out;omega,by go_num,by rw [List.length_set];exact HYL.out,HSTT.out.1,HSTT.out.2,by rw [←HFY.out];rfl⟩
              case measure=>simp [intOf];omega
             ·have HYE:Hid (ys=fillW 3 (q-j) j zs):=by
               have h1:=HFY.out
               have h2:=HKD.out
               rw [show d=0 by omega] at h1
               exact h1
              go_wp2_with (fail)
              go_step3
              exact⟨rfl,⟨q,f,ys,⟨_,_,_,_,_,_,_,_,_,_,_,_,_,_,_,_,_,_,_,_,_,_,_,_,_,_,_,_,_,_,_,_,_,_,_,_,_,_,_,_,_,_,_,_,_,_,_,_,_,_,_,_,_,_,_,_,_,_,_,_,_,_,_,_,_,_,_,_,_,_,_,_,rfl⟩,hB2,HYL.out,hY,hgY,hfq,by rw [HYE.out];exact HN.out.symm.trans HF.out⟩,by simp [intOf];omega⟩
end
section
open Go.RowKit
theorem Tryz.info_i8:(Tryz.prog.info? 22).map (fun i=>(i.zero,i.size,i.bytes))=some (some (.int .i8 0),1,1):=by kernel_rfl
def BeganPost (ks:List Int) (sos:Int) (w:World) (e:Ending) (w':World):Prop :=
 ∃ao cap,e=.returned (.tuple #[.slice ao ks.length cap,.int .i8 (if sos=1 then 1 else 0)])∧OutAt .i8 22 w' w.heap.size ao cap (ks.map lkn)∧Below w.heap.size w w'
def begF (ks:List Int) (i:Nat):List Int:=(ks.take i).map lkn++List.replicate (ks.length-i) 0
theorem begF_next (ks:List Int) (i:Nat) (h:i<ks.length):(begF ks i).set i (lkn (ith ks i))=begF ks (i+1):=by
 unfold begF
 have e:ks[i]=ith ks i:=by rw [ith,List.getD_eq_getElem?_getD,List.getElem?_eq_getElem h];rfl
 rw [List.take_succ_eq_append_getElem h,List.map_append,e,List.append_assoc,show ks.length-i=(ks.length-(i+1))+1 by omega,List.replicate_succ]
 rw [List.set_append_right _ _ (by simp;omega)]
 congr 1
 have:i-((ks.take i).map lkn).length=0:=by simp;omega
 rw [this]
 rfl
theorem begF_zero (ks:List Int) (i:Nat) (h:i<ks.length):ith (begF ks 0) i=0:=by
 unfold begF ith
 rw [List.getD_eq_getElem?_getD]
 simp [h]
theorem begF_len (ks:List Int) (i:Nat) (h:i≤ks.length):(begF ks i).length=ks.length:=by
 unfold begF;simp;omega
set_option maxHeartbeats 1000000 in
theorem began_any (ka:Option Addr) (ks:List Int) (kc:Nat) (sos:Int) (w:World) (hk:Rd .i8 w ka ks) (hkn:ks.length≤2097152) :
 Calls Tryz.prog 198 #[.slice ka ks.length kc,.int .i8 sos] w (BeganPost ks sos w):=by
 obtain⟨i40,hi40,hz40,ha40,hb40⟩:=info_parts (Tryz.info_i8)
 go_enter Tryz.func198,Tryz.ntmps198
 have hmk:=run_make_row (P:=Tryz.prog) 103 22 i40 (.int .i8 0) Tryz.underlying103 hi40 hz40 ha40 rfl .i64 .i64 ks.length (by rw [hb40];omega) (by omega)
 go_wp2_with (fail)
 clear hmk
 have hrow0:=World.rowIs_made w (.int .i8 0) ks.length 22
 have hO0:OutAt .i8 22 (w.alloc (.cells (madeCells #[.int .i8 0] ks.length) 22)) w.heap.size (some ⟨w.heap.size,0,none⟩) ks.length (begF ks 0) :=
  out_of_row (hrow0.congr fun i hi=>by rw [begF_zero ks i hi]) (begF_len ks 0 (by omega)) (Nat.le_refl _) (by unfold maxLen;omega)
 have hb0:=(Below.refl w.heap.size w).alloc (Nat.le_refl _) (.cells (madeCells #[.int .i8 0] ks.length) 22)
 clear hrow0
 go_loopw [14] (fun c wx=>∃i:Nat,i≤ks.length∧c=.int .i64 i∧OutAt .i8 22 wx w.heap.size (some ⟨w.heap.size,0,none⟩) ks.length (begF ks i)∧Below w.heap.size w wx) (fun c _=>ks.length-(intOf c).toNat)
 case atStart=>exact⟨0,by omega,rfl,hO0,hb0⟩
 case round =>
  obtain⟨i,hi,rfl,hO,hbel⟩:=hrel
  clear hO0 hb0
  by_cases hlt:i<ks.length
  ·obtain⟨kb,ko,rfl,hkb,hkc⟩:=hk.at hbel i hlt
   obtain⟨G,hG,hGb,hGl,hGc,hGf,_,_⟩:=hO.at i (by rw [begF_len ks i hi];exact hlt)
   cases hG
   have hnext:=begF_next ks i hlt
   generalize hy:ith ks i=y at hkc hnext
   have hb2:=hbel.setCell (p:=⟨w.heap.size,i,none⟩) (Nat.le_refl _) (.int .i8 (lkn y))
   have hO2:=hO.set i (lkn y)
   rw [hnext] at hO2
   have HO2:=lh hO2
   have HB2:=lh hb2
   clear hnext hO2 hb2 hy
   by_cases hbad:y<0∨22<y
   ·have e:lkn y=13:=if_pos hbad
    rw [e] at HO2 HB2
    rcases hbad with hbad | hbad
    ·clear e
     go_wp2_with (fail)
     go_roundw
     case rel=>exact⟨i+1,by omega,by go_num,HO2.out,HB2.out⟩
     case measure=>simp [intOf];omega
    ·have h0:¬ y<0:=by omega
     clear e
     go_wp2_with (fail)
     go_roundw
     case rel=>exact⟨i+1,by omega,by go_num,HO2.out,HB2.out⟩
     case measure=>simp [intOf];omega
   ·have e:lkn y=y:=if_neg hbad
    rw [e] at HO2 HB2
    have h0:¬ y<0:=by omega
    have h1:¬ 22<y:=by omega
    clear e hbad
    go_wp2_with (fail)
    go_roundw
    case rel=>exact⟨i+1,by omega,by go_num,HO2.out,HB2.out⟩
    case measure=>simp [intOf];omega
  ·have hie:i=ks.length:=by omega
   have hfin:begF ks i=ks.map lkn:=by unfold begF;rw [hie,List.take_length,Nat.sub_self,List.replicate_zero,List.append_nil]
   rw [hfin] at hO
   have HIE:=lh hie
   clear hie hfin
   by_cases h1:sos=1
   ·subst h1
    go_wp2_with (fail)
    go_ret2
    exact⟨_,_,rfl,hO,hbel⟩
   ·have hb:(sos != 1)=true:=by simpa using h1
    go_wp2_with (fail)
    go_ret2
    exact⟨_,_,by rw [if_neg h1];rfl,hO,hbel⟩
end
section
open Go.RowKit
def rulesC:Array Value:=#[.func (.func 214) #[] #[],.func (.func 215) #[] #[],.func (.func 216) #[] #[],.func (.func 217) #[] #[],.func (.func 218) #[] #[],.func (.func 219) #[] #[],.func (.func 220) #[] #[]]
set_option maxRecDepth 100000 in
set_option maxHeartbeats 400000 in
theorem rules_any (w:World):Calls Tryz.prog 199 #[] w fun e w'=>e=.returned (.agg rulesC)∧Below w.heap.size w w':=by
 go_enter Tryz.func199,Tryz.ntmps199
 go_upto_region 1 with (fail)
 go_wp2_with (refine wpList_store_row rfl 275 (.tmp 0) (.tmp 1) rfl w.heap.size rulesC rfl rfl 275 _ (heap_alloc_new w _) (by kernel_rfl) rfl (by kernel_rfl) ?_)
 refine bodyPost_ret (results_cell_row rfl _ _ w.heap.size _ _ _ _ rfl (setRow_heap _ _ _ _ _ _ (heap_alloc_new w _)) Tryz.underlying275 rfl (by kernel_rfl)) rfl ⟨rfl,?_⟩
 exact tab_below w _ _
theorem rules_0 (w:World):Sem.run Tryz.prog (Instr.index 275 (.agg rulesC) (.int .i64 0)) w=.ok (.func (.func 214) #[] #[]) w:=by kernel_rfl
theorem rules_1 (w:World):Sem.run Tryz.prog (Instr.index 275 (.agg rulesC) (.int .i64 1)) w=.ok (.func (.func 215) #[] #[]) w:=by kernel_rfl
theorem rules_2 (w:World):Sem.run Tryz.prog (Instr.index 275 (.agg rulesC) (.int .i64 2)) w=.ok (.func (.func 216) #[] #[]) w:=by kernel_rfl
theorem rules_3 (w:World):Sem.run Tryz.prog (Instr.index 275 (.agg rulesC) (.int .i64 3)) w=.ok (.func (.func 217) #[] #[]) w:=by kernel_rfl
theorem rules_4 (w:World):Sem.run Tryz.prog (Instr.index 275 (.agg rulesC) (.int .i64 4)) w=.ok (.func (.func 218) #[] #[]) w:=by kernel_rfl
theorem rules_5 (w:World):Sem.run Tryz.prog (Instr.index 275 (.agg rulesC) (.int .i64 5)) w=.ok (.func (.func 219) #[] #[]) w:=by kernel_rfl
theorem rules_6 (w:World):Sem.run Tryz.prog (Instr.index 275 (.agg rulesC) (.int .i64 6)) w=.ok (.func (.func 220) #[] #[]) w:=by kernel_rfl
def ruleF (n:Nat) (s:Int):Nat→List Int→List Int
 | 0,l=>marksF n 0 s l
 | 1,l=>arabicF n 0 s l
 | 2,l=>lettersF n 0 l
 | 3,l=>sepF (n-2) 1 l
 | 4,l=>termF (n+1) 0 l
 | 5,l=>othersF n 0 l
 | _,l=>digitsF n 0 s l
def stageF (n:Nat) (s:Int) (l:List Int):Nat→List Int
 | 0=>l
 | k+1=>ruleF n s k (stageF n s l k)
theorem stage_all (ks:List Int) (sos:Int):stageF ks.length (if sos=1 then 1 else 0) (ks.map lkn) 7=weakF ks sos:=rfl
def WeakPost (ks:List Int) (sos:Int) (w:World) (e:Ending) (w':World):Prop :=
 ∃ao cap,e=.returned (.slice ao ks.length cap)∧(weakF ks sos).length=ks.length∧OutAt .i8 22 w' w.heap.size ao cap (weakF ks sos)∧Below w.heap.size w w'
set_option maxRecDepth 100000 in
set_option maxHeartbeats 1000000 in
theorem WResolve_any (ka:Option Addr) (ks:List Int) (kc:Nat) (sos:Int) (w:World) (hk:Rd .i8 w ka ks) (hkn:ks.length≤2097152) :
 Calls Tryz.prog 160 #[.slice ka ks.length kc,.int .i8 sos] w (WeakPost ks sos w):=by
 have hb:=began_any ka ks kc sos w hk hkn
 have hfin:=stage_all ks sos
 obtain⟨s,hs⟩:∃s:Int,(if sos=1 then 1 else 0)=s:=⟨_,rfl⟩
 unfold BeganPost at hb
 rw [hs] at hb hfin
 obtain⟨l0,hl0⟩:∃l0,ks.map lkn=l0:=⟨_,rfl⟩
 have hlen0:l0.length=ks.length:=by rw [←hl0];simp
 rw [hl0] at hb hfin
 obtain⟨n,hn⟩:∃n,ks.length=n:=⟨_,rfl⟩
 rw [hn] at hb hfin hkn hlen0 ⊢
 obtain⟨B,hB⟩:∃B,w.heap.size=B:=⟨_,rfl⟩
 have hpost:∀ao cap w',(stageF n s l0 7).length=n→OutAt .i8 22 w' w.heap.size ao cap (stageF n s l0 7)→Below w.heap.size w w'→WeakPost ks sos w (.returned (.slice ao n cap)) w':=fun ao cap w' h1 h2 h3 =>
  ⟨ao,cap,by rw [hn],by rw [←hfin,hn];exact h1,by rw [←hfin];exact h2,h3⟩
 have HPOST:=lh hpost
 have HL0:=lh hlen0
 clear hk hs hl0 hn hfin hpost hlen0
 go_enter Tryz.func160,Tryz.ntmps160
 go_wp2_with (first | (go_at_call 198;refine hb.mono ?_;rintro e w1 ⟨ao,cap,rfl,hO,hb1⟩) | (go_at_call 199;refine (rules_any w1).mono ?_;rintro e w2 ⟨rfl,hb2⟩))
 have hbw:=hb1.trans (hb2.mono hb1.size)
 have hO2:=OutAt.keep hO hb2
 clear hb hb1 hb2 hO
 have q0:=rules_0
 have q1:=rules_1
 have q2:=rules_2
 have q3:=rules_3
 have q4:=rules_4
 have q5:=rules_5
 have q6:=rules_6
 go_loopw [15] (fun c wx=>∃i:Nat,i≤7∧c=.int .i64 i∧(stageF n s l0 i).length=n∧OutAt .i8 22 wx w.heap.size ao cap (stageF n s l0 i)∧Below w.heap.size w wx) (fun c _=>7-(intOf c).toNat)
 case atStart=>exact⟨0,by omega,rfl,HL0.out,hO2,hbw⟩
 case round =>
  obtain⟨i,hi,rfl,hlen,hO,hbel⟩:=hrel
  have HLEN:=lh hlen
  have HO:=lh hO
  have hrow:∀k,(Value.slice ao n cap).ownBlock=some k→w.heap.size≤k:=fun k hk=>(World.ownsRow.lt hO k (by rw [hlen];exact hk)).1
  have HROW:=lh hrow
  clear hlen hO hO2 hbw hrow
  by_cases h7:i=7
  ·subst h7
   go_wp2_with (fail)
   go_ret
   exact HPOST.out ao cap _ HLEN.out HO.out hbel
  ·have h:i=0∨i=1∨i=2∨i=3∨i=4∨i=5∨i=6:=by omega
   clear h7 hi
   rcases h with rfl | rfl | rfl | rfl | rfl | rfl | rfl
   all_goals
    go_wp2_with (first | (go_at_call 214;refine (marks_any ao cap w.heap.size n s _ wr HLEN.out HO.out hkn).mono ?_;rintro e w3 ⟨rfl,h1,h2,h3⟩) | (go_at_call 215;refine (arabic_any ao cap w.heap.size n s _ wr HLEN.out HO.out hkn).mono ?_;rintro e w3 ⟨rfl,h1,h2,h3⟩) | (go_at_call 216;refine (letters_any ao cap w.heap.size n s _ wr HLEN.out HO.out hkn).mono ?_;rintro e w3 ⟨rfl,h1,h2,h3⟩) | (go_at_call 217;refine (separators_any ao cap w.heap.size n s _ wr HLEN.out HO.out hkn).mono ?_;rintro e w3 ⟨rfl,h1,h2,h3⟩) | (go_at_call 218;refine (terminators_any ao cap w.heap.size n s _ wr HLEN.out HO.out hkn).mono ?_;rintro e w3 ⟨rfl,h1,h2,h3⟩) | (go_at_call 219;refine (others_any ao cap w.heap.size n s _ wr HLEN.out HO.out hkn).mono ?_;rintro e w3 ⟨rfl,h1,h2,h3⟩) | (go_at_call 220;refine (digits_any ao cap w.heap.size n s _ wr HLEN.out HO.out hkn).mono ?_;rintro e w3 ⟨rfl,h1,h2,h3⟩))
    go_roundw
    case rel=>first | exact⟨1,by omega,rfl,h1,h2,hbel.grown h3 hbel.size HROW.out⟩ | exact⟨2,by omega,rfl,h1,h2,hbel.grown h3 hbel.size HROW.out⟩ | exact⟨3,by omega,rfl,h1,h2,hbel.grown h3 hbel.size HROW.out⟩ | exact⟨4,by omega,rfl,h1,h2,hbel.grown h3 hbel.size HROW.out⟩ | exact⟨5,by omega,rfl,h1,h2,hbel.grown h3 hbel.size HROW.out⟩ | exact⟨6,by omega,rfl,h1,h2,hbel.grown h3 hbel.size HROW.out⟩ | exact⟨7,by omega,rfl,h1,h2,hbel.grown h3 hbel.size HROW.out⟩
    case measure=>simp [intOf]
end
end Go.Proofs.YtlmjbfncopbilaaGreatDoor
