/- Part 24 (merged by a program): lemmas of no further condition than each states. -/
import Derived.Test.YtlmjbfncopbilaaGreatDoorK23
namespace Go.Proofs.YtlmjbfncopbilaaGreatDoor
set_option linter.unusedVariables false
set_option linter.unusedSimpArgs false
section
open Go.RowKit
set_option maxRecDepth 100000 in
set_option maxHeartbeats 400000 in
theorem ClU_any (a:Option Addr) (c L:Nat) (l:List Int) (w:World) (hl:l.length=L) (hd:Rd .u8 w a l) (hn:L≤2097152) (hnil:a=none→c=0) :
 Calls Tryz.prog 167 #[.slice a L c] w fun e w'=>∃a c',e=.returned (.slice a L c')∧OutAt .u8 5 w' w.heap.size a c' l∧Below w.heap.size w w':=by
 obtain⟨i3,hi3,hz3,ha3,hb3⟩:=info_parts (Tryz.info_u8)
 have q22:∀(w:World) (a:Option Addr) (n c n' c':Nat),(binOp .eql 134 (.slice a n c) (.slice none n' c')).run Tryz.prog w=.ok (.bool a.isNone) w:=fun w a n c n' c'=>Lib.run_eql_slice_nil w _ _ a n c n' c' Tryz.underlying134
 have HL:=lh hl
 cases a with
 | none =>
   have hl0:l=[]:=by
    rcases hd with h | ⟨_,_,e,_⟩
    ·exact h
    ·cases e
   have h0:L=0:=by rw [←hl,hl0];rfl
   subst hl0 h0
   clear hl hd
   go_enter Tryz.func167,Tryz.ntmps167
   go_wp2_with (fail)
   go_ret
   exact⟨none,0,rfl,World.ownsRow_nil _ _ _ _,Below.refl _ _⟩
 | some ad =>
   have hcells:∀j u,(l.map (Value.int .u8))[j]? = some u→(w.alloc (.cells #[] 5)).cell? (ad.add j)=some u:=fun j u hj=>by
    have hjl:j<l.length:=by
     rcases Nat.lt_or_ge j l.length with h | h
     ·exact h
     ·rw [List.getElem?_eq_none (by rw [List.length_map];exact h)] at hj;cases hj
    obtain⟨b,off,e,hb,hc⟩:=hd.at ((Below.refl w.heap.size w).alloc (Nat.le_refl _) (.cells #[] 5)) j hjl
    cases e
    rw [List.getElem?_map,ith_get hjl] at hj
    cases hj
    rw [Addr.add_lit,hc]
   have HC:=lh hcells
   clear hcells hl hd
   go_enter Tryz.func167,Tryz.ntmps167
   go_wp2_with (at_builtin;refine wpList_append_own _ rfl _ _ 134 rfl w.heap.size 5 i3 (.int .u8 0) 1 1 Tryz.underlying134 hi3 hz3 ha3 hb3 rfl (by decide) _ _ _ rfl (World.ownsRow_made w #[] 0 (Nat.le_refl _) (Nat.zero_le _) (by simp)) ad L c (l.map (Value.int .u8)) rfl (by rw [List.length_map,HL.out];omega) HC.out (fun u hu=>by rw [List.mem_map] at hu;obtain⟨x,_,rfl⟩:=hu;rfl) (by unfold maxLen;omega) (by omega) (by simp) ?_;intro v' w' ho hg _)
   obtain⟨va,vc,hva,_,_⟩:=own_slice ho
   subst hva
   go_ret
   rw [Nat.zero_add,List.nil_append] at ho
   refine⟨va,vc,by rw [Nat.zero_add];rfl,?_,((Below.refl w.heap.size w).alloc (Nat.le_refl _) _).grown hg (by simp) (fun k hk=>by cases hk;exact Nat.le_refl _)⟩
   unfold OutAt
   rw [HL.out]
   exact ho
def RowPost (R:Option (List Nat)) (w:World) (e':Ending) (w':World):Prop :=
 Below w.heap.size w w'∧match R with
  | none=>e'=.returned (.slice none 0 0)
  | some l=>∃a c,e'=.returned (.slice a l.length c)∧OutAt .u8 5 w' w.heap.size a c (ints l)
theorem hangF_len (cs:List Int) (base fr:Nat):∀(i:Nat) (h:Bool) (out:List Nat),(hangF cs base fr i h out).length=out.length
 | 0,h,out=>rfl
 | i+1,h,out=>by
   rw [hangF,hangF_len cs base fr i]
   split <;> simp
theorem ints_take (l:List Nat) (k:Nat):ints (l.take k)=(ints l).take k:=by unfold ints;rw [List.map_take]
theorem ints_drop (l:List Nat) (k:Nat):ints (l.drop k)=(ints l).drop k:=by unfold ints;rw [List.map_drop]
set_option maxRecDepth 100000 in
set_option maxHeartbeats 1000000 in
theorem Row_any (a la:Option Addr) (cs:List Int) (ls:List Nat) (n1 n2 c lc base:Nat) (fr tt:Int) (w:World) (h1:cs.length=n1) (h2:ls.length=n2) (hc:Rd .i32 w a cs) (hls:Rd .u8 w la (ints ls)) (hn1:n1≤2097152) (hn2:n2≤2097152)
 (hlc:n2≤lc) (hcm:lc≤9223372036854775807) (hla:(la=none∧lc=0)∨∃G o,la=some ⟨G,o,none⟩) :
 Calls Tryz.prog 127 #[.slice a n1 c,.slice la n2 lc,.int .u8 base,.int .i64 fr,.int .i64 tt] w (RowPost (rowI cs ls base fr tt) w):=by
 obtain⟨M,hM⟩:∃M,min n1 n2=M:=⟨_,rfl⟩
 obtain⟨F,hF⟩:∃F,clampN M fr=F:=⟨_,rfl⟩
 obtain⟨T,hT⟩:∃T,clampN M tt=T:=⟨_,rfl⟩
 obtain⟨B6,hB6⟩:∃B6,min base 126=B6:=⟨_,rfl⟩
 have hR:rowI cs ls base fr tt=if T<F then none else some (hangF cs B6 F (T-F) true ((ls.drop F).take (T-F))):=by
  unfold rowI
  simp only [h1,h2,hM,hF,hT,hB6]
 rw [hR]
 have eM:min (n1:Int) (n2:Int)=(M:Int):=by omega
 have eF:min (max fr 0) (M:Int)=(F:Int):=by rw [←hF];unfold clampN;omega
 have eT:min (max tt 0) (M:Int)=(T:Int):=by rw [←hT];unfold clampN;omega
 have eB:min (base:Int) 126=(B6:Int):=by omega
 have hFM:F≤M:=by rw [←hF];unfold clampN;omega
 have hTM:T≤M:=by rw [←hT];unfold clampN;omega
 have H1:=lh h1
 have H2:=lh h2
 clear hM hF hT hB6 hR h1 h2
 by_cases hTF:T<F
 ·rw [if_pos hTF]
  have ht:(T:Int)<(F:Int):=by omega
  go_enter Tryz.func127,Tryz.ntmps127
  go_wp2_with (fail)
  go_ret
  exact⟨Below.refl _ _,rfl⟩
 ·rw [if_neg hTF]
  obtain⟨K,hK⟩:∃K,T-F=K:=⟨_,rfl⟩
  rw [hK]
  obtain⟨l0,hl0⟩:∃l0,(ls.drop F).take K=l0:=⟨_,rfl⟩
  rw [hl0]
  have hl0l:l0.length=K:=by rw [←hl0,List.length_take,List.length_drop];have:=H2.out;omega
  obtain⟨FIN,hFIN⟩:∃FIN,hangF cs B6 F K true l0=FIN:=⟨_,rfl⟩
  rw [hFIN]
  have hfl:FIN.length=K:=by rw [←hFIN,hangF_len,hl0l]
  have HFL:=lh hfl
  have HFIN:=lh hFIN
  have HK:=lh hK
  have HL0:=lh hl0l
  have ht:¬ (T:Int)<(F:Int):=by omega
  have ht2:(F:Int)≤(T:Int):=by omega
  have gF0:(0:Int)≤(F:Int):=by omega
  have gT1:(T:Int)≤(lc:Int):=by omega
  have gT0:(0:Int)≤(T:Int):=by omega
  have hcl:∀ad c',(ad=la∧(F=0∨K=0)∨∃G o,la=some ⟨G,o,none⟩∧ad=some ⟨G,o+F,none⟩)→(ad=none→c'=0) →
   Calls Tryz.prog 167 #[.slice ad K c'] w fun e w'=>∃a c',e=.returned (.slice a K c')∧OutAt .u8 5 w' w.heap.size a c' (ints l0)∧Below w.heap.size w w':=fun ad c' had hnil=>by
   refine ClU_any ad c' K (ints l0) w (by rw [ints_len];exact hl0l) ?_ (by omega) hnil
   rcases had with ⟨rfl,h | h⟩ | ⟨G,o,e,rfl⟩
   ·subst h
    rw [←hl0,List.drop_zero,ints_take]
    exact rd_take hls K
   ·exact .inl (List.eq_nil_of_length_eq_zero (by rw [ints_len,hl0l];exact h))
   ·rw [e] at hls
    rw [←hl0,ints_take,ints_drop]
    exact rd_take (rd_drop hls F) K
  have HCL:=lh hcl
  clear hfl hFIN hK hl0 hl0l hcl hTF
  go_enter Tryz.func127,Tryz.ntmps127
  go_upto_region 5 with (fail)
  go_cut [12] (fun v wx=>∃oa oc,v=.slice oa K oc∧OutAt .u8 5 wx w.heap.size oa oc (ints l0)∧Below w.heap.size w wx)
  case first =>
   rcases hla with ⟨rfl,rfl⟩ | ⟨G,o,rfl⟩
   ·have hT0:T=0:=by omega
    have hF0:F=0:=by omega
    have hK0:K=0:=by have:=HK.out;omega
    subst hT0 hF0 hK0
    have hcal:=HCL.out none 0 (.inl ⟨rfl,.inl rfl⟩) (fun _=>rfl)
    go_wp2_with (go_at_call 167;refine hcal.mono ?_;rintro e w1 ⟨oa,oc,rfl,hO1,hb1⟩)
    go_meet
    exact⟨oa,oc,rfl,hO1,hb1⟩
   ·have hKi:T-F=K:=HK.out
    by_cases hcF:lc=F
    ·have hK0:K=0:=by omega
     have hTF2:T=F:=by omega
     subst hK0 hTF2
     subst hcF
     have hcal:=HCL.out (some ⟨G,o,none⟩) 0 (.inl ⟨rfl,.inr rfl⟩) (fun e=>by cases e)
     clear hKi
     go_wp2_with (go_at_call 167;refine hcal.mono ?_;rintro e w1 ⟨oa,oc,rfl,hO1,hb1⟩)
     go_meet
     exact⟨oa,oc,rfl,hO1,hb1⟩
    ·have hcal:=HCL.out (some ⟨G,o+F,none⟩) (lc-F) (.inr ⟨G,o,rfl,rfl⟩) (fun e=>by cases e)
     rw [←hKi] at hcal
     have HKI:=lh hKi
     clear hKi
     go_wp2_with (go_at_call 167;refine hcal.mono ?_;rintro e w1 ⟨oa,oc,rfl,hO1,hb1⟩)
     go_meet
     exact⟨oa,oc,by rw [HKI.out],hO1,hb1⟩
  case rest =>
   obtain⟨oa,oc,rfl,hO1,hb1⟩:=hcut
   have hK2:K≤n1:=by have:=HK.out;omega
   have hFK:F+K≤n1:=by have:=HK.out;omega
   clear hFM hTM ht ht2 gT0 gT1 HCL eM eF eT
   go_wp2_with (fail)
   go_loopw [13,14] (fun u13 u14 wx=>∃(k:Nat) (z:Int) (h:Bool) (out:List Nat),u13=.bool h∧u14=.int .i64 z∧z+1=k∧k≤K∧OutAt .u8 5 wx w.heap.size oa oc (ints out)∧out.length=K∧Below w.heap.size w wx∧hangF cs B6 F k h out=FIN) (fun _ c _=>(intOf c+1).toNat)
   case atStart=>exact⟨K,(K:Int)-1,true,l0,rfl,by go_num,by omega,Nat.le_refl _,hO1,HL0.out,hb1,HFIN.out⟩
   case round =>
    obtain⟨k,z,h,out,rfl,rfl,hzk,hkK,hO,hol,hbel,hF⟩:=hrel
    clear hO1 hb1
    cases k with
    | zero =>
      have hz:z = -1:=by omega
      subst hz
      rw [hangF] at hF
      have HF:=lh hF
      have HOL:=lh hol
      have HO:=lh hO
      clear hF hol hzk hO
      go_wp2_with (fail)
      go_ret
      refine⟨hbel,?_⟩
      have e:=HF.out
      subst e
      exact⟨oa,oc,by rw [HOL.out];rfl,HO.out⟩
    | succ k =>
      have hz:z=(k:Int):=by omega
      subst hz
      obtain⟨G,hG,_,hGl,hXo,hFo,_,_⟩:=hO.at k (by rw [ints_len,hol];omega)
      subst hG
      obtain⟨Gc,co,rfl,hGc,hcc⟩:=hc.at hbel (F+k) (by rw [H1.out];omega)
      obtain⟨x,hx⟩:∃x,out.getD k 0=x:=⟨_,rfl⟩
      rw [ith_ints,hx] at hXo
      obtain⟨y,hy⟩:∃y,ith cs (F+k)=y:=⟨_,rfl⟩
      rw [hy] at hcc
      rw [hangF,hy,hx] at hF
      obtain⟨m6,hm6⟩:∃m6,min x 126=m6:=⟨_,rfl⟩
      rw [hm6] at hF
      have hmi:min (x:Int) 126=(m6:Int):=by omega
      obtain⟨d,hd⟩:∃d,dirI y=d:=⟨_,rfl⟩
      rw [hd] at hF
      obtain⟨hh,hhh⟩:∃hh,hangsF d h=hh:=⟨_,rfl⟩
      rw [hhh] at hF
      have HF:=lh hF
      have HO:=lh hO
      have HOL:=lh hol
      have HBE:=lh hbel
      have HH:Hid (hh=if d=11∨d=10 then true else if d≠12∧leftB d=false∧(d<19∨22<d) then false else h):=lh hhh.symm
      have hDir:Hid (∀W,Calls Tryz.prog 116 #[.int .i32 y] W fun e w'=>e=.returned (.int .i8 d)∧Below W.heap.size W w'):=lh fun W=>by rw [←hd];exact Dir_any y W
      have gk0:(0:Int)≤(k:Int):=by omega
      have gk1:(k:Int)<(K:Int):=by omega
      have gfk:(F:Int)+(k:Int)<(n1:Int):=by omega
      clear hF hO hol hbel hx hy hm6 hd hhh hzk
      go_upto_region 12 with (fail)
      have hO2:OutAt .u8 5 (wr.setCell ⟨G,k,none⟩ (.int .u8 (m6:Nat))) w.heap.size (some ⟨G,0,none⟩) oc (ints (out.set k m6)):=by rw [ints_set];exact HO.out.set k m6
      have hb2:Below w.heap.size w (wr.setCell ⟨G,k,none⟩ (.int .u8 (m6:Nat))):=HBE.out.setCell (p:=⟨G,k,none⟩) (by exact (HO.out.lt).1) _
      have hcc2:(wr.setCell ⟨G,k,none⟩ (.int .u8 (m6:Nat))).cell? ⟨Gc,co+(F+k),none⟩=some (.int .i32 y):=(World.cell?_of_block (a:=⟨Gc,co+(F+k),none⟩) (heap_setCell_other wr ⟨G,k,none⟩ Gc _ (by show Gc≠G;have:=(HO.out.lt).1;omega))).trans hcc
      obtain⟨w2,hw2⟩:∃w2,w2=wr.setCell ⟨G,k,none⟩ (.int .u8 (m6:Nat)):=⟨_,rfl⟩
      rw [←hw2] at hO2 hb2 hcc2 ⊢
      have hGl2:G<w2.heap.size:=hO2.lt.2
      have HO2:=lh hO2
      have HB2:=lh hb2
      obtain⟨_,hGe,_,_,hXk,hFk,_,_⟩:=hO2.at k (by rw [ints_len,List.length_set,HOL.out];omega)
      cases hGe
      generalize ith (ints (out.set k m6)) k=vv at hXk
      clear hO2 hb2 hw2 hXo hFo hcc hmi hGl
      go_upto_block 2 with (go_at_call 116;refine (hDir.out _).mono ?_;rintro e w3 ⟨rfl,hw3⟩;have hX3:=(hw3.cell (p:=⟨G,k,none⟩) hGl2).trans hXk;have hF3:=(hw3.frozen (p:=⟨G,k,none⟩) hGl2).trans hFk;have HW3:=lh hw3;clear hw3)
      go_cut [13] (fun v wx=>v=.bool hh∧wx=w3)
      case first =>
       obtain⟨lb,hlb⟩:∃lb,leftB d=lb:=⟨_,rfl⟩
       have HLB:Hid (∀W,Calls Tryz.prog 162 #[.int .i8 d] W fun e w'=>e=.returned (.bool lb)∧W=w'):=lh fun W=>by rw [←hlb];exact vleft_any d W
       have HH2:=HH
       rw [hlb] at HH2
       clear hlb hX3 hF3
       by_cases h11:d=11
       ·subst h11
        have HE:=lh (HH2.out.trans (if_pos (.inl rfl)))
        go_wp2_with (fail)
        go_meet
        exact⟨by rw [HE.out],rfl⟩
       ·by_cases h10:d=10
        ·subst h10
         have HE:=lh (HH2.out.trans (if_pos (.inr rfl)))
         go_wp2_with (fail)
         go_meet
         exact⟨by rw [HE.out],rfl⟩
        ·have e:=HH2.out.trans (if_neg (by omega))
         have c11:(d==11)=false:=by simpa using h11
         have c10:(d==10)=false:=by simpa using h10
         by_cases h12:d=12
         ·subst h12
          have HE:=lh (e.trans (if_neg (fun h=>h.1 rfl)))
          clear e
          go_wp2_with (fail)
          go_meet
          exact⟨by rw [HE.out],rfl⟩
         ·have c12:(d==12)=false:=by simpa using h12
          have c12':(d != 12)=true:=by simpa using h12
          cases lb with
          | true =>
            have HE:=lh (e.trans (if_neg (fun h=>by have:=h.2.1;simp at this)))
            clear e h10 h11 h12
            go_wp2_with (go_at_call 162;refine (HLB.out _).mono ?_;rintro e w' ⟨rfl,hw'⟩;subst hw')
            go_meet
            exact⟨by rw [HE.out],rfl⟩
          | false =>
            by_cases h19:d<19
            ·have HE:=lh (e.trans (if_pos ⟨h12,rfl,.inl h19⟩))
             clear e h10 h11 h12
             go_wp2_with (go_at_call 162;refine (HLB.out _).mono ?_;rintro e w' ⟨rfl,hw'⟩;subst hw')
             go_meet
             exact⟨by rw [HE.out],rfl⟩
            ·by_cases h22:22<d
             ·have HE:=lh (e.trans (if_pos ⟨h12,rfl,.inr h22⟩))
              clear e h10 h11 h12
              go_wp2_with (go_at_call 162;refine (HLB.out _).mono ?_;rintro e w' ⟨rfl,hw'⟩;subst hw')
              go_meet
              exact⟨by rw [HE.out],rfl⟩
             ·have HE:=lh (e.trans (if_neg (fun h=>by have:=h.2.2;omega)))
              clear e h10 h11 h12
              go_wp2_with (go_at_call 162;refine (HLB.out _).mono ?_;rintro e w' ⟨rfl,hw'⟩;subst hw')
              go_meet
              exact⟨by rw [HE.out],rfl⟩
      case rest =>
       obtain⟨rfl,hwx⟩:=hcut
       have hwx':=hwx.symm
       clear hwx
       subst hwx'
       have hO3:=HO2.out.keep HW3.out
       have hS3:=hO3.set k B6
       rw [←ints_set] at hS3
       have HO3:=lh hO3
       have HS3:=lh hS3
       have HB3:Hid (Below w.heap.size w w3):=lh (HB2.out.trans (HW3.out.mono HB2.out.size))
       clear hO3 hS3
       cases hh with
       | true =>
         go_wp2_with (fail)
         go_roundw
         case rel=>exact⟨k,(k:Int)-1,true,_,rfl,by go_num,by omega,by omega,HS3.out,by rw [List.length_set,List.length_set];exact HOL.out,HB3.out.setCell (p:=⟨G,k,none⟩) (by exact (HO.out.lt).1) _,by have:=HF.out;rwa [if_pos (by first | rfl | trivial)] at this⟩
         case measure=>simp [intOf]
       | false =>
         go_wp2_with (fail)
         go_roundw
         case rel=>exact⟨k,(k:Int)-1,false,_,rfl,by go_num,by omega,by omega,HO3.out,by rw [List.length_set];exact HOL.out,HB3.out,by have:=HF.out;rwa [if_neg (by simp)] at this⟩
         case measure=>simp [intOf]
end
section
def loF (lv:Nat→Nat) (x:Nat):Nat→Nat
 | 0=>0
 | p+1=>if x≤lv p then loF lv x p else p+1
def hiF (lv:Nat→Nat) (x:Nat):Nat→Nat→Nat
 | 0,p=>p
 | m+1,p=>if x≤lv p then hiF lv x m (p+1) else p
def revI (lv:Nat→Nat) (n x p:Nat):Nat:=if p<n∧x≤lv p then loF lv x p+hiF lv x (n-p) p-1-p else p
structure Str (lv:Nat→Nat) (n x s e:Nat):Prop where
 se:s≤e
 en:e≤n
 all:∀q,s≤q→q<e→x≤lv q
 left:s=0∨lv (s-1)<x
 right:e=n∨lv e<x
theorem lo_of {lv:Nat→Nat} {x s:Nat} (hl:s=0∨lv (s-1)<x):∀d,(∀q,s≤q→q<s+d→x≤lv q)→loF lv x (s+d)=s
 | 0,_=>by
   cases s with
   | zero=>rfl
   | succ s =>
     show (if x≤lv s then loF lv x s else s+1)=s+1
     rw [if_neg]
     rcases hl with h | h
     ·cases h
     ·rw [Nat.add_sub_cancel] at h;omega
 | d+1,h=>by
   show (if x≤lv (s+d) then loF lv x (s+d) else s+d+1)=s
   rw [if_pos (h (s+d) (by omega) (by omega))]
   exact lo_of hl d (fun q h1 h2=>h q h1 (by omega))
theorem hi_of {lv:Nat→Nat} {x e:Nat}:∀m p,p≤e→e≤p+m→(∀q,p≤q→q<e→x≤lv q)→(e=p+m∨lv e<x)→hiF lv x m p=e
 | 0,p,h1,h2,_,_=>by show p=e;omega
 | m+1,p,h1,h2,h3,h4=>by
   show (if x≤lv p then hiF lv x m (p+1) else p)=e
   by_cases h:p=e
   ·subst h
    rw [if_neg]
    rcases h4 with h | h <;> omega
   ·rw [if_pos (h3 p (by omega) (by omega))]
    exact hi_of m (p+1) (by omega) (by omega) (fun q h1 h2=>h3 q (by omega) h2) (by rcases h4 with h | h;exact .inl (by omega);exact .inr h)
theorem lo_str (lv:Nat→Nat) (x:Nat):∀p,loF lv x p≤p∧(∀q,loF lv x p≤q→q<p→x≤lv q)∧(loF lv x p=0∨lv (loF lv x p-1)<x)
 | 0=>⟨Nat.le_refl _,fun q h1 h2=>absurd h2 (by omega),.inl rfl⟩
 | p+1=>by
   obtain⟨h1,h2,h3⟩:=lo_str lv x p
   unfold loF
   by_cases h:x≤lv p
   ·rw [if_pos h]
    exact⟨by omega,fun q a b=>by
     by_cases hq:q=p
     ·subst hq;exact h
     ·exact h2 q a (by omega),h3⟩
   ·rw [if_neg h]
    exact⟨Nat.le_refl _,fun q a b=>absurd b (by omega),.inr (by rw [Nat.add_sub_cancel];omega)⟩
theorem hi_str (lv:Nat→Nat) (x:Nat):∀m p,p≤hiF lv x m p∧hiF lv x m p≤p+m∧(∀q,p≤q→q<hiF lv x m p→x≤lv q)∧(hiF lv x m p=p+m∨lv (hiF lv x m p)<x)
 | 0,p=>⟨Nat.le_refl _,Nat.le_refl _,fun q h1 h2=>absurd h2 (by unfold hiF;omega),.inl rfl⟩
 | m+1,p=>by
   obtain⟨h1,h2,h3,h4⟩:=hi_str lv x m (p+1)
   unfold hiF
   by_cases h:x≤lv p
   ·rw [if_pos h]
    exact⟨by omega,by omega,fun q a b=>by
     by_cases hq:q=p
     ·subst hq;exact h
     ·exact h3 q (by omega) b,by rcases h4 with h4 | h4;exact .inl (by omega);exact .inr h4⟩
   ·rw [if_neg h]
    exact⟨Nat.le_refl _,by omega,fun q a b=>absurd b (by omega),.inr (by omega)⟩
theorem str_at {lv:Nat→Nat} {n x p:Nat} (hp:p<n) (hx:x≤lv p):∃s e,Str lv n x s e∧s≤p∧p<e:=by
 obtain⟨a1,a2,a3⟩:=lo_str lv x p
 obtain⟨b1,b2,b3,b4⟩:=hi_str lv x (n-p) p
 refine⟨loF lv x p,hiF lv x (n-p) p,⟨by omega,by omega,fun q h1 h2=>?_,a3,?_⟩,a1,?_⟩
 ·by_cases h:q<p
  ·exact a2 q h1 h
  ·exact b3 q (by omega) h2
 ·rcases b4 with h | h
  ·exact .inl (by omega)
  ·exact .inr h
 ·by_cases h:hiF lv x (n-p) p=p
  ·rcases b4 with h' | h'
   ·omega
   ·rw [h] at h';omega
  ·omega
theorem rev_str {lv:Nat→Nat} {n x s e p:Nat} (h:Str lv n x s e) (h1:s≤p) (h2:p<e):revI lv n x p=s+e-1-p:=by
 have hlo:loF lv x p=s:=by
  have:=lo_of (lv:=lv) h.left (p-s) (fun q a b=>h.all q a (by omega))
  rwa [show s+(p-s)=p by omega] at this
 have hhi:hiF lv x (n-p) p=e:=hi_of (n-p) p (by omega) (by have:=h.en;omega) (fun q a b=>h.all q (by omega) b) (by
  rcases h.right with r | r
  ·exact .inl (by have:=h.en;omega)
  ·exact .inr r)
 unfold revI
 rw [if_pos ⟨by have:=h.en;omega,h.all p h1 h2⟩,hlo,hhi]
theorem rev_out {lv:Nat→Nat} {n x p:Nat} (h:¬ (p<n∧x≤lv p)):revI lv n x p=p:=if_neg h
theorem rev_in {lv:Nat→Nat} {n x s e p:Nat} (h:Str lv n x s e) (h1:s≤p) (h2:p<e):s≤revI lv n x p∧revI lv n x p<e:=by
 rw [rev_str h h1 h2];omega
theorem rev_rev (lv:Nat→Nat) (n x p:Nat):revI lv n x (revI lv n x p)=p:=by
 by_cases h:p<n∧x≤lv p
 ·obtain⟨s,e,hs,h1,h2⟩:=str_at h.1 h.2
  have hi:=rev_in hs h1 h2
  rw [rev_str hs hi.1 hi.2,rev_str hs h1 h2]
  omega
 ·rw [rev_out h,rev_out h]
theorem rev_lt {lv:Nat→Nat} {n x p:Nat} (hp:p<n):revI lv n x p<n:=by
 by_cases h:p<n∧x≤lv p
 ·obtain⟨s,e,hs,h1,h2⟩:=str_at h.1 h.2
  have hi:=rev_in hs h1 h2
  have:=hs.en
  omega
 ·rw [rev_out h];exact hp
theorem rev_lv {lv:Nat→Nat} {n x y p:Nat} (hy:y≤x):(y≤lv (revI lv n x p))↔y≤lv p:=by
 by_cases h:p<n∧x≤lv p
 ·obtain⟨s,e,hs,h1,h2⟩:=str_at h.1 h.2
  have hi:=rev_in hs h1 h2
  have a:=hs.all _ hi.1 hi.2
  have b:=hs.all _ h1 h2
  omega
 ·rw [rev_out h]
def oF (lv:Nat→Nat) (n:Nat):Nat→Nat→Nat→Nat
 | _,0,p=>p
 | x,d+1,p=>oF lv n (x+1) d (revI lv n x p)
def tF (lv:Nat→Nat) (n:Nat):Nat→Nat→Nat→Nat
 | _,0,k=>k
 | x,d+1,k=>revI lv n x (tF lv n (x+1) d k)
theorem oF_tF (lv:Nat→Nat) (n:Nat):∀d x k,oF lv n x d (tF lv n x d k)=k
 | 0,_,_=>rfl
 | d+1,x,k=>by show oF lv n (x+1) d (revI lv n x (revI lv n x (tF lv n (x+1) d k)))=k;rw [rev_rev,oF_tF lv n d (x+1) k]
theorem tF_oF (lv:Nat→Nat) (n:Nat):∀d x p,tF lv n x d (oF lv n x d p)=p
 | 0,_,_=>rfl
 | d+1,x,p=>by show revI lv n x (tF lv n (x+1) d (oF lv n (x+1) d (revI lv n x p)))=p;rw [tF_oF lv n d (x+1),rev_rev]
theorem tF_lt {lv:Nat→Nat} {n:Nat}:∀d x k,k<n→tF lv n x d k<n
 | 0,_,_,h=>h
 | d+1,x,k,h=>rev_lt (tF_lt d (x+1) k h)
theorem oF_lt {lv:Nat→Nat} {n:Nat}:∀d x p,p<n→oF lv n x d p<n
 | 0,_,_,h=>h
 | d+1,x,p,h=>oF_lt d (x+1) _ (rev_lt h)
theorem oF_lv {lv:Nat→Nat} {n y:Nat}:∀d x p,y≤x→((y≤lv (oF lv n x d p))↔y≤lv p)
 | 0,_,_,_=>Iff.rfl
 | d+1,x,p,h=>(oF_lv d (x+1) _ (by omega)).trans (rev_lv h)
open Go.RowKit
def listOf (n:Nat) (g:Nat→Int):List Int:=(List.range n).map g
theorem listOf_len (n:Nat) (g:Nat→Int):(listOf n g).length=n:=by unfold listOf;simp
theorem listOf_ith (n:Nat) (g:Nat→Int) (p:Nat) (h:p<n):ith (listOf n g) p=g p:=by
 unfold listOf ith
 rw [List.getD_eq_getElem?_getD,List.getElem?_map,List.getElem?_range h]
 rfl
theorem list_ext {a b:List Int} (hl:a.length=b.length) (h:∀p,p<a.length→ith a p=ith b p):a=b:=by
 apply List.ext_getElem hl
 intro i h1 h2
 have:=h i h1
 unfold ith at this
 rw [List.getD_eq_getElem?_getD,List.getD_eq_getElem?_getD,List.getElem?_eq_getElem h1,List.getElem?_eq_getElem h2] at this
 exact this
theorem listOf_congr {n:Nat} {g h:Nat→Int} (e:∀p,p<n→g p=h p):listOf n g=listOf n h:=by
 unfold listOf
 exact List.map_congr_left fun p hp=>e p (List.mem_range.1 hp)
theorem listOf_set (n:Nat) (g:Nat→Int) (i:Nat) (v:Int) (h:i<n):(listOf n g).set i v=listOf n (fun p=>if p=i then v else g p):=by
 refine list_ext (by rw [List.length_set,listOf_len,listOf_len]) fun p hp=>?_
 rw [List.length_set,listOf_len] at hp
 rw [ith_set _ _ _ _ (by rw [listOf_len];exact h),listOf_ith _ _ _ hp,listOf_ith _ _ _ hp]
 by_cases e:i=p
 ·rw [if_pos e,if_pos e.symm]
 ·rw [if_neg e,if_neg (fun h=>e h.symm)]
def swapG (g:Nat→Int) (f m k:Nat) (p:Nat):Int:=if (f≤p∧p<f+k)∨(f+m-k≤p∧p<f+m) then g (f+(f+m)-1-p) else g p
def revG (g:Nat→Int) (f m:Nat) (p:Nat):Int:=if f≤p∧p<f+m then g (f+(f+m)-1-p) else g p
theorem swapG_zero (g:Nat→Int) (f m p:Nat):swapG g f m 0 p=g p:=by
 unfold swapG
 rw [if_neg (by omega)]
theorem swapG_end (g:Nat→Int) (f m k p:Nat) (h:m≤2*k+1) (hk:2*k≤m):swapG g f m k p=revG g f m p:=by
 unfold swapG revG
 by_cases h1:f≤p∧p<f+m
 ·rw [if_pos h1]
  by_cases h2:(f≤p∧p<f+k)∨(f+m-k≤p∧p<f+m)
  ·rw [if_pos h2]
  ·rw [if_neg h2]
   congr 1
   omega
 ·rw [if_neg h1]
  by_cases h2:(f≤p∧p<f+k)∨(f+m-k≤p∧p<f+m)
  ·omega
  ·rw [if_neg h2]
theorem swapG_next (g:Nat→Int) (f m k p:Nat) (h:2*k+1<m) :
 (if p=f+(m-1-k) then g (f+k) else if p=f+k then g (f+(m-1-k)) else swapG g f m k p)=swapG g f m (k+1) p:=by
 unfold swapG
 by_cases e1:p=f+(m-1-k)
 ·rw [if_pos e1,if_pos (by omega)]
  congr 1;omega
 ·rw [if_neg e1]
  by_cases e2:p=f+k
  ·rw [if_pos e2,if_pos (by omega)]
   congr 1;omega
  ·rw [if_neg e2]
   by_cases h2:(f≤p∧p<f+k)∨(f+m-k≤p∧p<f+m)
   ·rw [if_pos h2,if_pos (by omega)]
   ·rw [if_neg h2,if_neg (by omega)]
theorem turn_nil (a:Option Addr) (c:Nat) (w:World):Calls Tryz.prog 132 #[.slice a 0 c] w fun e w'=>e=.returned (.tuple #[])∧w=w':=by
 go_enter Tryz.func132,Tryz.ntmps132
 go_wp2_with (fail)
 go_loopw [2,3] (fun u2 u3 wx=>u2=.int .i64 0∧u3=.int .i64 (-1)∧w=wx) (fun _ _ _=>0)
 case atStart=>exact⟨rfl,by go_num,rfl⟩
 case round =>
  obtain⟨rfl,rfl,hwx⟩:=hrel
  subst hwx
  go_wp2_with (fail)
  go_end0
  exact⟨rfl,rfl⟩
set_option maxRecDepth 100000 in
set_option maxHeartbeats 1000000 in
theorem turn_any (G f m c base N n:Nat) (g:Nat→Int) (w:World) (hO:OutAt .i64 3 w base (some ⟨G,0,none⟩) N (listOf n g)) (hfm:f+m≤n) (hn:n≤2097152) (hmc:m≤c) :
 Calls Tryz.prog 132 #[.slice (some ⟨G,f,none⟩) m c] w fun e w'=>e=.returned (.tuple #[])∧OutAt .i64 3 w' base (some ⟨G,0,none⟩) N (listOf n (revG g f m))∧w.grownBy w' (some G):=by
 have HO:=lh hO
 clear hO
 go_enter Tryz.func132,Tryz.ntmps132
 go_wp2_with (fail)
 go_loopw [2,3] (fun u2 u3 wx=>∃(k:Nat) (z:Int),u2=.int .i64 k∧u3=.int .i64 z∧z+1+k=m∧2*k≤m∧OutAt .i64 3 wx base (some ⟨G,0,none⟩) N (listOf n (swapG g f m k))∧w.grownBy wx (some G)) (fun u2 _ _=>m-(intOf u2).toNat)
 case atStart=>exact⟨0,(m:Int)-1,rfl,by go_num,by omega,by omega,by rw [listOf_congr (fun p _=>swapG_zero g f m p)];exact HO.out,World.grownBy.refl _ _⟩
 case round =>
  obtain⟨k,z,rfl,rfl,hz,hk2,hO,hg⟩:=hrel
  by_cases hlt:2*k+1<m
  ·obtain⟨b,rfl⟩:∃b:Nat,z=b:=⟨z.toNat,by omega⟩
   have hbe:b=m-1-k:=by omega
   obtain⟨_,hG1,_,_,hXa,hFa,_,_⟩:=hO.at (f+k) (by rw [listOf_len];omega)
   cases hG1
   obtain⟨_,hG1,_,_,hXb,hFb,_,_⟩:=hO.at (f+b) (by rw [listOf_len];omega)
   cases hG1
   rw [listOf_ith _ _ _ (by omega)] at hXa hXb
   have ea:swapG g f m k (f+k)=g (f+k):=by unfold swapG;rw [if_neg (by omega)]
   have eb:swapG g f m k (f+b)=g (f+b):=by unfold swapG;rw [if_neg (by omega)]
   rw [ea] at hXa
   rw [eb] at hXb
   obtain⟨va,hva⟩:∃va,g (f+k)=va:=⟨_,rfl⟩
   obtain⟨vb,hvb⟩:∃vb,g (f+b)=vb:=⟨_,rfl⟩
   rw [hva] at hXa
   rw [hvb] at hXb
   have hnx:((listOf n (swapG g f m k)).set (f+k) vb).set (f+b) va=listOf n (swapG g f m (k+1)):=by
    rw [listOf_set _ _ _ _ (by omega),listOf_set _ _ _ _ (by omega)]
    refine listOf_congr fun p hp=>?_
    rw [←swapG_next g f m k p hlt,←hva,←hvb,hbe]
   have hS1:=(hO.set (f+k) vb).set (f+b) va
   rw [hnx] at hS1
   have HS1:=lh hS1
   have hGs:=grown_set (i:=f+b) (grown_set (i:=f+k) hg (.int .i64 vb)) (.int .i64 va)
   have HGS:=lh hGs
   have gk0:(0:Int)≤(k:Int):=by omega
   have gk1:(k:Int)<(m:Int):=by omega
   have gb0:(0:Int)≤(b:Int):=by omega
   have gb1:(b:Int)<(m:Int):=by omega
   have gkb:(k:Int)<(b:Int):=by omega
   have hne:f+k≠f+b:=by omega
   have hne2:f+b≠f+k:=by omega
   have hkb1:k≠b:=by omega
   have hkb2:b≠k:=by omega
   clear ea eb hva hvb hnx hS1 hGs hO hg hbe
   go_wp2_with (fail)
   go_region
   all_goals go_wp2_with (fail)
   go_roundw
   case rel=>exact⟨k+1,(b:Int)-1,by go_num,by go_num,by omega,by omega,HS1.out,⟨HGS.out.os,HGS.out.tape,HGS.out.output,HGS.out.size,HGS.out.block⟩⟩
   case measure=>simp [intOf];omega
  ·have hzk:¬ ((k:Int)<z):=by omega
   rw [listOf_congr (fun p _=>swapG_end g f m k p (by omega) hk2)] at hO
   have HO2:=lh hO
   have HG:=lh hg
   clear hO hg
   go_wp2_with (fail)
   go_end0
   exact⟨rfl,HO2.out,HG.out⟩
end
end Go.Proofs.YtlmjbfncopbilaaGreatDoor
