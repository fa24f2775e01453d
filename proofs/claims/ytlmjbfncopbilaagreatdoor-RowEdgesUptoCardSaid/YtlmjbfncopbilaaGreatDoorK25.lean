/- Part 25 (merged by a program): lemmas of no further condition than each states. -/
import Derived.Lib.MapLaws
import Derived.Test.YtlmjbfncopbilaaGreatDoorK11
import Derived.Test.YtlmjbfncopbilaaGreatDoorK24
namespace Go.Proofs.YtlmjbfncopbilaaGreatDoor
set_option linter.unusedVariables false
set_option linter.unusedSimpArgs false
section
open Go.RowKit
def lvF (ls:List Nat) (i:Nat):Nat:=min (ls.getD i 0) 126
def topF (ls:List Nat):Nat→Nat
 | 0=>0
 | i+1=>max (topF ls i) (lvF ls i)
theorem topF_le (ls:List Nat):∀i,topF ls i≤126
 | 0=>Nat.zero_le _
 | i+1=>by have:=topF_le ls i;rw [topF];unfold lvF;omega
def ordG (ls:List Nat) (n x d p:Nat):Int:=((oF (lvF ls) n (x+1) d p:Nat):Int)
def orderI (ls:List Nat):List Int:=listOf ls.length (ordG ls ls.length 0 (topF ls ls.length))
def midG (ls:List Nat) (n x d fr p:Nat):Int:=ordG ls n (x+1) d (if p<fr then revI (lvF ls) n (x+1) p else p)
theorem ordG_next (ls:List Nat) (n x d p:Nat):ordG ls n (x+1) d (revI (lvF ls) n (x+1) p)=ordG ls n x (d+1) p:=rfl
theorem midG_zero (ls:List Nat) (n x d p:Nat):midG ls n x d 0 p=ordG ls n (x+1) d p:=by
 unfold midG;rw [if_neg (Nat.not_lt_zero _)]
theorem midG_end (ls:List Nat) (n x d fr p:Nat) (h:p<n) (hf:n≤fr):midG ls n x d fr p=ordG ls n x (d+1) p:=by
 unfold midG;rw [if_pos (by omega),ordG_next]
theorem midG_turn (ls:List Nat) (n x d fr i p:Nat) (hfi:fr≤i) (hin:i≤n) (hp:p<n) (hl:fr=0∨lvF ls (fr-1)<x+1) (ha:∀q,fr≤q→q<i→x+1≤lvF ls q) (hr:i=n∨lvF ls i<x+1) :
 revG (midG ls n x d fr) fr (i-fr) p=midG ls n x d (i+1) p:=by
 have hs:Str (lvF ls) n (x+1) fr i:=⟨hfi,hin,ha,hl,hr⟩
 unfold revG
 by_cases h:fr≤p∧p<fr+(i-fr)
 ·rw [if_pos h]
  unfold midG
  rw [if_neg (by omega),if_pos (by omega),rev_str hs h.1 (by omega)]
  congr 1
  omega
 ·rw [if_neg h]
  unfold midG
  by_cases h1:p<fr
  ·rw [if_pos h1,if_pos (by omega)]
  ·rw [if_neg h1]
   by_cases h2:p=i
   ·rw [if_pos (by omega),rev_out (by rcases hr with h | h <;> (subst h2;omega))]
   ·rw [if_neg (by omega)]
def dealN (n i:Nat) (p:Nat):Int:=if p<i then p else 0
def OrdPost (ls:List Nat) (n:Nat) (w:World) (e:Ending) (w':World):Prop :=
 e=.returned (.slice (some ⟨w.heap.size,0,none⟩) n n)∧OutAt .i64 3 w' w.heap.size (some ⟨w.heap.size,0,none⟩) n (orderI ls)∧Below w.heap.size w w'
set_option maxRecDepth 100000 in
set_option maxHeartbeats 1000000 in
theorem Order_any (a:Option Addr) (ls:List Nat) (n c:Nat) (w:World) (hl:ls.length=n) (hd:Rd .u8 w a (ints ls)) (hn:n≤2097152) :
 Calls Tryz.prog 88 #[.slice a n c] w (OrdPost ls n w):=by
 obtain⟨i3,hi3,hz3,ha3,hb3⟩:=info_parts (Tryz.info_int)
 have HL:=lh hl
 have hOI:orderI ls=listOf n (ordG ls n 0 (topF ls n)):=by unfold orderI;rw [hl]
 have HOI:=lh hOI
 have hmk:=run_make_row (P:=Tryz.prog) 93 3 i3 (.int .i64 0) Tryz.underlying93 hi3 hz3 ha3 rfl .i64 .i64 n (by rw [hb3];omega) (by omega)
 clear hl hOI
 go_enter Tryz.func88,Tryz.ntmps88
 go_wp2_with (fail)
 refine wp_scope_straight ?_
 go_wp2_with (fail)
 clear hmk
 have hO0:OutAt .i64 3 (w.alloc (.cells (madeCells #[.int .i64 0] n) 3)) w.heap.size (some ⟨w.heap.size,0,none⟩) n (listOf n (dealN n 0)) :=
  out_of_row ((World.rowIs_made w (.int .i64 0) n 3).congr fun i hi=>by rw [listOf_ith _ _ _ hi];unfold dealN;rw [if_neg (Nat.not_lt_zero _)]) (listOf_len _ _) (Nat.le_refl _) (by unfold maxLen;omega)
 have hb0:=(Below.refl w.heap.size w).alloc (Nat.le_refl _) (.cells (madeCells #[.int .i64 0] n) 3)
 go_loopw [4,5,6,15] (fun u4 _ _ u wx=>∃i:Nat,i≤n∧u=.int .i64 i∧u4=.int .u8 (topF ls i:Nat)∧OutAt .i64 3 wx w.heap.size (some ⟨w.heap.size,0,none⟩) n (listOf n (dealN n i))∧Below w.heap.size w wx) (fun _ _ _ u _=>n-(intOf u).toNat)
 case atStart=>exact⟨0,by omega,rfl,rfl,hO0,hb0⟩
 case round =>
  obtain⟨i,hi,rfl,rfl,hO,hbel⟩:=hrel
  clear hO0 hb0
  by_cases hlt:i<n
  ·obtain⟨G,o,rfl,hG,hcl⟩:=hd.at hbel i (by rw [ints_len,HL.out];exact hlt)
   rw [ith_ints] at hcl
   obtain⟨x,hx⟩:∃x,ls.getD i 0=x:=⟨_,rfl⟩
   rw [hx] at hcl
   obtain⟨_,hGe,_,_,hXo,hFo,_,_⟩:=hO.at i (by rw [listOf_len];exact hlt)
   cases hGe
   generalize ith (listOf n (dealN n i)) i=vo at hXo
   have hS:=hO.set i (i:Int)
   have hnx:(listOf n (dealN n i)).set i (i:Int)=listOf n (dealN n (i+1)):=by
    rw [listOf_set _ _ _ _ hlt]
    refine listOf_congr fun p hp=>?_
    unfold dealN
    by_cases e:p=i
    ·rw [if_pos e,if_pos (by omega),e]
    ·rw [if_neg e]
     by_cases e2:p<i
     ·rw [if_pos e2,if_pos (by omega)]
     ·rw [if_neg e2,if_neg (by omega)]
   rw [hnx] at hS
   obtain⟨m6,hm6⟩:∃m6,lvF ls i=m6:=⟨_,rfl⟩
   have hmi:min (x:Int) 126=(m6:Int):=by rw [←hm6];unfold lvF;rw [hx];omega
   have htn:topF ls (i+1)=max (topF ls i) m6:=by rw [topF,hm6]
   obtain⟨tp,htp⟩:∃tp,topF ls i=tp:=⟨_,rfl⟩
   obtain⟨tq,htq⟩:∃tq,topF ls (i+1)=tq:=⟨_,rfl⟩
   rw [htp,htq] at htn
   have hmx:max (tp:Int) (m6:Int)=(tq:Int):=by omega
   have HTQ:=lh htq
   have HS:=lh hS
   have HB:=lh (hbel.setCell (p:=⟨w.heap.size,i,none⟩) (Nat.le_refl _) (.int .i64 (i:Int)))
   have gi0:(0:Int)≤(i:Int):=by omega
   have gi1:(i:Int)<(n:Int):=by omega
   rw [htp]
   clear hx hm6 htn htp htq hS hnx hO hbel
   go_wp2_with (fail)
   go_roundw
   case rel=>exact⟨i+1,by omega,by go_num,by rw [HTQ.out],HS.out,HB.out⟩
   case measure=>simp [intOf];omega
  ·have hie:n=i:=by omega
   subst hie
   obtain⟨g,hg⟩:∃g,topF ls n=g:=⟨_,rfl⟩
   have hg6:g≤126:=by rw [←hg];exact topF_le ls n
   rw [hg] at HOI ⊢
   have hO1:OutAt .i64 3 wr w.heap.size (some ⟨w.heap.size,0,none⟩) n (listOf n (ordG ls n g 0)):=by
    rw [listOf_congr (fun p hp=>show ordG ls n g 0 p=dealN n n p by unfold dealN;rw [if_pos hp];rfl)]
    exact hO
   have HO1:=lh hO1
   have HB1:=lh hbel
   clear hO hg hO1 hbel hi hlt
   go_wp2_with (fail)
   refine wp_label ?_
   go_wp2_with (fail)
   go_loopw [7,8,9,37] (fun u7 _ _ _ wx=>∃x d:Nat,u7=.int .u8 x∧x+d=g∧OutAt .i64 3 wx w.heap.size (some ⟨w.heap.size,0,none⟩) n (listOf n (ordG ls n x d))∧Below w.heap.size w wx) (fun u7 _ _ _ _=>(intOf u7).toNat)
   case atStart=>exact⟨g,0,rfl,by omega,HO1.out,HB1.out⟩
   case round =>
    obtain⟨x,d,rfl,hxd,hO,hbel⟩:=hrel
    clear HO1 HB1
    cases x with
    | zero =>
      have hdg:d=g:=by omega
      rw [hdg,←HOI.out] at hO
      clear hxd hdg
      go_wp2_with (fail)
      unfold Exit.noGoto
      go_ret
      exact⟨rfl,hO,hbel⟩
    | succ x =>
      obtain⟨X,hX⟩:∃X,x+1=X:=⟨_,rfl⟩
      rw [hX] at hO ⊢
      have hX0:((X:Int)==0)=false:=by rw [beq_eq_false_iff_ne];omega
      have hX6:X≤126:=by omega
      have hO1:OutAt .i64 3 wr w.heap.size (some ⟨w.heap.size,0,none⟩) n (listOf n (midG ls n x d 0)):=by
       rw [listOf_congr (fun p _=>midG_zero ls n x d p),hX];exact hO
      have HX:=lh hX
      have HOA:=lh hO1
      have HBA:=lh hbel
      clear hO hO1 hbel
      go_wp2_with (fail)
      go_loopw [8,9,37] (fun u8 _ u wx=>∃i fr:Nat,u=.int .i64 i∧u8=.int .i64 fr∧i≤n+1∧fr≤i∧(i=n+1→fr=n+1)∧(fr=0∨lvF ls (fr-1)<x+1∨fr=n+1)∧(∀q,fr≤q→q<i→q<n→x+1≤lvF ls q)∧OutAt .i64 3 wx w.heap.size (some ⟨w.heap.size,0,none⟩) n (listOf n (midG ls n x d fr))∧Below w.heap.size w wx) (fun _ _ u _=>n+1-(intOf u).toNat)
      case atStart=>exact⟨0,0,rfl,rfl,by omega,by omega,fun h=>by omega,.inl rfl,fun q _ h=>by omega,HOA.out,HBA.out⟩
      case round =>
       obtain⟨i,fr,rfl,rfl,hi,hfi,hend,hlf,hal,hO,hbel⟩:=hrel
       clear HOA HBA
       by_cases hin1:i=n+1
       ·have hfe:=hend hin1
        have hO2:OutAt .i64 3 wr w.heap.size (some ⟨w.heap.size,0,none⟩) n (listOf n (ordG ls n x (d+1))):=by
         rw [←listOf_congr (fun p hp=>midG_end ls n x d fr p hp (by omega))];exact hO
        have HO2:=lh hO2
        have HB2:=lh hbel
        clear hO hO2 hbel hal hlf hend hfi hfe
        subst hin1
        have hX1:(X:Int)-1=x:=by have:=HX.out;omega
        go_wp2_with (fail)
        go_roundw
        case rel=>exact⟨x,d+1,by first | rfl | rw [hX1],by omega,HO2.out,HB2.out⟩
        case measure=>simp [intOf];omega
       ·have HO:=lh hO
        have HBE:=lh hbel
        have HAL:=hal
        have HLF:fr=0∨lvF ls (fr-1)<x+1:=by
         rcases hlf with h | h | h
         ·exact .inl h
         ·exact .inr h
         ·omega
        by_cases hlt:i<n
        ·have hmid:midG ls n x d fr i=((oF (lvF ls) n (x+1+1) d i:Nat):Int):=by unfold midG;rw [if_neg (by omega)];rfl
         obtain⟨k,hk⟩:∃k,oF (lvF ls) n (x+1+1) d i=k:=⟨_,rfl⟩
         have hkn:k<n:=by rw [←hk];exact oF_lt d (x+1+1) i hlt
         have hkl:(x+1≤lvF ls k)↔x+1≤lvF ls i:=by rw [←hk];exact oF_lv d (x+1+1) i (by omega)
         rw [hk] at hmid
         obtain⟨_,hGe,_,_,hXo,_,_,_⟩:=hO.at i (by rw [listOf_len];exact hlt)
         cases hGe
         rw [listOf_ith _ _ _ hlt,hmid] at hXo
         obtain⟨G,o,rfl,hG,hcl⟩:=hd.at hbel k (by rw [ints_len,HL.out];exact hkn)
         rw [ith_ints] at hcl
         obtain⟨lk,hlk⟩:∃lk,ls.getD k 0=lk:=⟨_,rfl⟩
         rw [hlk] at hcl
         have hlx:(x+1≤lk)↔x+1≤lvF ls i:=by
          rw [←hkl];unfold lvF;rw [hlk];omega
         have gi0:(0:Int)≤(i:Int):=by omega
         have gi1:(i:Int)<(n:Int):=by omega
         have gk0:(0:Int)≤(k:Int):=by omega
         have gk1:(k:Int)<(n:Int):=by omega
         clear hO hbel hmid hk hkl hlk hal hlf
         by_cases hge:x+1≤lk
         ·have hai:=hlx.1 hge
          have hgi:(X:Int)≤(lk:Int):=by have:=HX.out;omega
          clear hlx
          go_wp2_with (fail)
          go_roundw
          case rel=>exact⟨i+1,fr,by go_num,rfl,by omega,by omega,fun h=>by omega,HLF.imp id .inl,fun q h1 h2 h3=>by
           rcases Nat.lt_or_ge q i with h | h
           ·exact HAL q h1 h h3
           ·obtain rfl:q=i:=by omega
            exact hai,HO.out,HBE.out⟩
          case measure=>simp [intOf];omega
         ·have HRR0:lvF ls i<x+1:=by
           rcases Nat.lt_or_ge (lvF ls i) (x+1) with h | h
           ·exact h
           ·exact absurd (hlx.2 h) hge
          have HR:i=n∨lvF ls i<x+1:=.inr HRR0
          have HRR:lvF ls i<x+1∨i+1=n+1:=.inl HRR0
          have hgi:¬ (X:Int)≤(lk:Int):=by have:=HX.out;omega
          have gf0:(0:Int)≤(fr:Int):=by omega
          have gf1:(fr:Int)≤(i:Int):=by omega
          have gf2:(i:Int)≤(n:Int):=by omega
          clear hlx hge hend
          by_cases hnf:n=fr
          ·exact absurd hnf (by omega)
          ·have HTU:=lh (turn_any w.heap.size fr (i-fr) (n-fr) w.heap.size n n (midG ls n x d fr) wr HO.out (by omega) hn (by omega))
           rw [listOf_congr (fun p hp=>midG_turn ls n x d fr i p hfi (by omega) hp HLF (fun q h1 h2=>HAL q h1 h2 (by omega)) HR)] at HTU
           go_wp2_with (go_at_call 132;refine HTU.out.mono ?_;rintro e w2 ⟨rfl,hO2,hg2⟩)
           have hbb:Below w.heap.size w w2:=HBE.out.grown hg2 HBE.out.size (fun k hk=>by cases hk;exact Nat.le_refl _)
           go_roundw
           case rel=>exact⟨i+1,i+1,by go_num,by go_num,by omega,Nat.le_refl _,fun _=>by omega,.inr (by rw [Nat.add_sub_cancel];exact HRR),fun q h1 h2=>by omega,hO2,hbb⟩
           case measure=>simp [intOf];omega
        ·have hie:i=n:=by omega
         have HR:i=n∨lvF ls i<x+1:=.inl hie
         have HRR:lvF ls i<x+1∨i+1=n+1:=.inr (by omega)
         have gf0:(0:Int)≤(fr:Int):=by omega
         have gf1:(fr:Int)≤(n:Int):=by omega
         have hie':n=i:=hie.symm
         have hni:¬ (i:Int)<(n:Int):=by omega
         clear hO hbel hal hlf hend hlt
         subst hie'
         clear hni hie
         by_cases hnf:n=fr
         ·have hO2:=HO.out
          rw [listOf_congr (fun p hp=>show midG ls n x d fr p=midG ls n x d (n+1) p by rw [midG_end ls n x d fr p hp (by omega),midG_end ls n x d (n+1) p hp (by omega)])] at hO2
          have HO2:=lh hO2
          clear hO2
          subst hnf
          go_wp2_with (go_at_call 132;refine (turn_nil _ _ _).mono ?_;rintro e w2 ⟨rfl,hw2⟩;subst hw2)
          go_roundw
          case rel=>exact⟨n+1,n+1,by go_num,by go_num,by omega,Nat.le_refl _,fun _=>by omega,.inr (.inr (by omega)),fun q h1 h2=>by omega,HO2.out,HBE.out⟩
          case measure=>first | (simp [intOf];done) | (simp [intOf];omega)
         ·have HTU:=lh (turn_any w.heap.size fr (n-fr) (n-fr) w.heap.size n n (midG ls n x d fr) wr HO.out (by omega) hn (by omega))
          rw [listOf_congr (fun p hp=>midG_turn ls n x d fr n p hfi (by omega) hp HLF (fun q h1 h2=>HAL q h1 h2 (by omega)) HR)] at HTU
          go_wp2_with (go_at_call 132;refine HTU.out.mono ?_;rintro e w2 ⟨rfl,hO2,hg2⟩)
          have hbb:Below w.heap.size w w2:=HBE.out.grown hg2 HBE.out.size (fun k hk=>by cases hk;exact Nat.le_refl _)
          go_roundw
          case rel=>exact⟨n+1,n+1,by go_num,by go_num,by omega,Nat.le_refl _,fun _=>by omega,.inr (.inr (by omega)),fun q h1 h2=>by omega,hO2,hbb⟩
          case measure=>first | (simp [intOf];done) | (simp [intOf];omega)
end
section
theorem get_app (a:Array UInt8) (t:ByteArray) (i:Nat) (h:i<a.size):((⟨a⟩:ByteArray)++t).get! i=a[i]:=by
 show ((⟨a⟩:ByteArray)++t).data[i]! = a[i]
 have hd:((⟨a⟩:ByteArray)++t).data=a++t.data:=by simp
 rw [hd,getElem!_pos (a++t.data) i (by rw [Array.size_append];omega),Array.getElem_append_left h]
theorem ext_bytes (t:ByteArray) (k:Nat) (hk:k≤t.size):t.extract 0 k=⟨((List.range k).map (fun i=>t.get! i)).toArray⟩:=by
 apply ByteArray.ext
 rw [ByteArray.data_extract]
 apply Array.ext
 ·simp;show min k t.size=k;omega
 ·intro i h1 h2
  have hi:i<t.data.size:=by
   have:i<min k t.data.size:=by simpa using h1
   omega
  simp
  show _=t.data[i]!
  rw [getElem!_pos t.data i hi]
theorem byte_of (x:UInt8) (n:Nat) (h:n=x.toNat):UInt8.ofNat n=x:=by subst h;simp
theorem enc_dec (t:ByteArray) (h:0<t.size) (hv:¬ (decR t=65533∧decN t=1)):Utf8.encode (decR t)=t.extract 0 (decN t):=by
 have hl:=decN_le t
 rw [ext_bytes t _ hl]
 have hd:=dec_go t h
 rw [Lib.decode_at] at hd
 unfold decR decN at hv hl ⊢
 rw [←hd] at hv hl ⊢
 simp only [Nat.zero_add,Nat.sub_zero] at hv hl ⊢
 have k0:=(t.get! 0).toNat_lt
 have k1:=(t.get! 1).toNat_lt
 have k2:=(t.get! 2).toNat_lt
 have k3:=(t.get! 3).toNat_lt
 rcases Lib.decodeN_shape t.size (t.get! 0).toNat (t.get! 1).toNat (t.get! 2).toNat (t.get! 3).toNat with ⟨c,e⟩ | ⟨c1,c2,c3,cv,e⟩ | ⟨c1,c2,c3,c4,cv,cs,e⟩ | ⟨c1,c2,c3,c4,c5,cv,cw,e⟩ | e
 ·rw [e] at hl ⊢
  dsimp only
  have hval:Utf8.valid ((t.get! 0).toNat:Int)=true:=by rw [validRune_eq];unfold validRune;rw [decide_eq_true_eq];omega
  unfold Utf8.encode
  simp only [hval,if_true,Int.toNat_natCast]
  rw [if_pos (by omega),byte_of (t.get! 0) _ rfl]
  rfl
 ·rw [e] at hl ⊢
  dsimp only
  generalize hc:(t.get! 0).toNat % 32*64+(t.get! 1).toNat % 64=c at cv
  have hval:Utf8.valid (c:Int)=true:=by rw [validRune_eq];unfold validRune;rw [decide_eq_true_eq];omega
  unfold Utf8.encode
  simp only [hval,if_true,Int.toNat_natCast]
  rw [if_neg (by omega),if_pos (by omega),byte_of (t.get! 0) _ (by omega),byte_of (t.get! 1) _ (by omega)]
  rfl
 ·rw [e] at hl ⊢
  dsimp only
  generalize hc:(t.get! 0).toNat % 16*4096+(t.get! 1).toNat % 64*64+(t.get! 2).toNat % 64=c at cv cs
  have hval:Utf8.valid (c:Int)=true:=by rw [validRune_eq];unfold validRune;rw [decide_eq_true_eq];omega
  unfold Utf8.encode
  simp only [hval,if_true,Int.toNat_natCast]
  rw [if_neg (by omega),if_neg (by omega),if_pos (by omega),byte_of (t.get! 0) _ (by omega),byte_of (t.get! 1) _ (by omega),byte_of (t.get! 2) _ (by omega)]
  rfl
 ·rw [e] at hl ⊢
  dsimp only
  generalize hc:(t.get! 0).toNat % 8*262144+(t.get! 1).toNat % 64*4096+(t.get! 2).toNat % 64*64+(t.get! 3).toNat % 64=c at cv cw
  have hval:Utf8.valid (c:Int)=true:=by rw [validRune_eq];unfold validRune;rw [decide_eq_true_eq];omega
  unfold Utf8.encode
  simp only [hval,if_true,Int.toNat_natCast]
  rw [if_neg (by omega),if_neg (by omega),if_neg (by omega),byte_of (t.get! 0) _ (by omega),byte_of (t.get! 1) _ (by omega),byte_of (t.get! 2) _ (by omega),byte_of (t.get! 3) _ (by omega)]
  rfl
 ·exfalso
  rw [e] at hv
  exact hv ⟨rfl,rfl⟩
theorem ofNat_lt (n:Nat) (h:n<256):(UInt8.ofNat n).toNat=n:=by simp;omega
theorem dec_enc (r:Int) (hv:validRune r=true) (t:ByteArray):Utf8.decode (Utf8.encode r++t) 0=(r.toNat,(Utf8.encode r).size):=by
 have hval:Utf8.valid r=true:=by rw [validRune_eq];exact hv
 unfold validRune at hv
 rw [decide_eq_true_eq] at hv
 unfold Utf8.encode
 simp only [hval,if_true]
 generalize hc:r.toNat=c
 have hb:c<55296∨(57343<c∧c≤1114111):=by omega
 by_cases c1:c<128
 ·rw [if_pos c1]
  have g0:(((⟨#[UInt8.ofNat c]⟩:ByteArray)++t).get! 0).toNat=c:=by rw [get_app _ _ 0 (by simp)];exact ofNat_lt _ (by omega)
  rw [Lib.decode_at]
  simp only [Nat.zero_add,Nat.sub_zero]
  rw [g0]
  unfold Lib.decodeN
  rw [if_pos c1]
  rfl
 rw [if_neg c1]
 by_cases c2:c<2048
 ·rw [if_pos c2]
  have hz:((⟨#[UInt8.ofNat (192+c / 64),UInt8.ofNat (128+c % 64)]⟩:ByteArray)++t).size=2+t.size:=by rw [ByteArray.size_append];rfl
  have g0:(((⟨#[UInt8.ofNat (192+c / 64),UInt8.ofNat (128+c % 64)]⟩:ByteArray)++t).get! 0).toNat=192+c / 64:=by rw [get_app _ _ 0 (by simp)];exact ofNat_lt _ (by omega)
  have g1:(((⟨#[UInt8.ofNat (192+c / 64),UInt8.ofNat (128+c % 64)]⟩:ByteArray)++t).get! 1).toNat=128+c % 64:=by rw [get_app _ _ 1 (by simp)];exact ofNat_lt _ (by omega)
  rw [Lib.decode_at]
  simp only [Nat.zero_add,Nat.sub_zero]
  rw [g0,g1,hz]
  unfold Lib.decodeN
  rw [if_neg (by omega),if_pos ⟨by omega,by omega,by omega⟩,if_pos (by omega)]
  exact Prod.ext (by show _=c;omega) rfl
 rw [if_neg c2]
 by_cases c3:c<65536
 ·rw [if_pos c3]
  have hz:((⟨#[UInt8.ofNat (224+c / 4096),UInt8.ofNat (128+c / 64 % 64),UInt8.ofNat (128+c % 64)]⟩:ByteArray)++t).size=3+t.size:=by rw [ByteArray.size_append];rfl
  have g0:(((⟨#[UInt8.ofNat (224+c / 4096),UInt8.ofNat (128+c / 64 % 64),UInt8.ofNat (128+c % 64)]⟩:ByteArray)++t).get! 0).toNat=224+c / 4096:=by rw [get_app _ _ 0 (by simp)];exact ofNat_lt _ (by omega)
  have g1:(((⟨#[UInt8.ofNat (224+c / 4096),UInt8.ofNat (128+c / 64 % 64),UInt8.ofNat (128+c % 64)]⟩:ByteArray)++t).get! 1).toNat=128+c / 64 % 64:=by rw [get_app _ _ 1 (by simp)];exact ofNat_lt _ (by omega)
  have g2:(((⟨#[UInt8.ofNat (224+c / 4096),UInt8.ofNat (128+c / 64 % 64),UInt8.ofNat (128+c % 64)]⟩:ByteArray)++t).get! 2).toNat=128+c % 64:=by rw [get_app _ _ 2 (by simp)];exact ofNat_lt _ (by omega)
  rw [Lib.decode_at]
  simp only [Nat.zero_add,Nat.sub_zero]
  rw [g0,g1,g2,hz]
  unfold Lib.decodeN
  rw [if_neg (by omega),if_neg (by omega),if_pos ⟨by omega,⟨by omega,by omega⟩,by omega,by omega⟩,if_pos (by omega)]
  exact Prod.ext (by show _=c;omega) rfl
 ·rw [if_neg c3]
  have hz:((⟨#[UInt8.ofNat (240+c / 262144),UInt8.ofNat (128+c / 4096 % 64),UInt8.ofNat (128+c / 64 % 64),UInt8.ofNat (128+c % 64)]⟩:ByteArray)++t).size=4+t.size:=by rw [ByteArray.size_append];rfl
  have g0:(((⟨#[UInt8.ofNat (240+c / 262144),UInt8.ofNat (128+c / 4096 % 64),UInt8.ofNat (128+c / 64 % 64),UInt8.ofNat (128+c % 64)]⟩:ByteArray)++t).get! 0).toNat=240+c / 262144:=by rw [get_app _ _ 0 (by simp)];exact ofNat_lt _ (by omega)
  have g1:(((⟨#[UInt8.ofNat (240+c / 262144),UInt8.ofNat (128+c / 4096 % 64),UInt8.ofNat (128+c / 64 % 64),UInt8.ofNat (128+c % 64)]⟩:ByteArray)++t).get! 1).toNat=128+c / 4096 % 64:=by rw [get_app _ _ 1 (by simp)];exact ofNat_lt _ (by omega)
  have g2:(((⟨#[UInt8.ofNat (240+c / 262144),UInt8.ofNat (128+c / 4096 % 64),UInt8.ofNat (128+c / 64 % 64),UInt8.ofNat (128+c % 64)]⟩:ByteArray)++t).get! 2).toNat=128+c / 64 % 64:=by rw [get_app _ _ 2 (by simp)];exact ofNat_lt _ (by omega)
  have g3:(((⟨#[UInt8.ofNat (240+c / 262144),UInt8.ofNat (128+c / 4096 % 64),UInt8.ofNat (128+c / 64 % 64),UInt8.ofNat (128+c % 64)]⟩:ByteArray)++t).get! 3).toNat=128+c % 64:=by rw [get_app _ _ 3 (by simp)];exact ofNat_lt _ (by omega)
  rw [Lib.decode_at]
  simp only [Nat.zero_add,Nat.sub_zero]
  rw [g0,g1,g2,g3,hz]
  unfold Lib.decodeN
  rw [if_neg (by omega),if_neg (by omega),if_neg (by omega),if_pos ⟨by omega,⟨by omega,by omega⟩,⟨by omega,by omega⟩,by omega,by omega⟩,if_pos (by omega)]
  exact Prod.ext (by show _=c;omega) rfl
theorem enc_pos (r:Int):0<(Utf8.encode r).size:=by
 unfold Utf8.encode
 dsimp only
 generalize (if Utf8.valid r=true then r.toNat else Utf8.runeError)=c
 split
 ·show 0<1;omega
 split
 ·show 0<2;omega
 split
 ·show 0<3;omega
 ·show 0<4;omega
def bytesF:List Int→ByteArray
 | []=>⟨#[]⟩
 | r::t=>Utf8.encode r++bytesF t
theorem foldl_bytes:∀(l:List Int) (a:ByteArray),l.foldl (fun r n=>r++Utf8.encode n) a=a++bytesF l
 | [],a=>by
   apply ByteArray.ext
   simp [bytesF]
 | r::t,a=>by rw [List.foldl_cons,foldl_bytes t,bytesF,ByteArray.append_assoc]
theorem runesBytes_F (l:List Int):runesBytes l=bytesF l:=by
 unfold runesBytes
 rw [foldl_bytes]
 apply ByteArray.ext
 simp [ByteArray.empty,ByteArray.emptyWithCapacity]
 rfl
def validAll (l:List Int):Prop:=∀r∈l,validRune r=true
theorem bytes_go (r:Int) (t:List Int) (hv:validRune r=true):Lib.decodeGo (bytesF (r::t))=(r.toNat,(Utf8.encode r).size):=by
 have hp:=enc_pos r
 have h0:0<(bytesF (r::t)).size:=by rw [bytesF,ByteArray.size_append];omega
 rw [←dec_go _ h0,bytesF]
 exact dec_enc r hv _
theorem app_tail (a b:ByteArray):(a++b).extract a.size (a++b).size=b:=by
 apply ByteArray.ext
 rw [ByteArray.data_extract]
 have hd:(a++b).data=a.data++b.data:=by simp
 have hs:(a++b).size=a.data.size+b.data.size:=by rw [ByteArray.size_append];rfl
 rw [hd,hs,show a.size=a.data.size from rfl,Array.extract_append]
 generalize a.data=x
 generalize b.data=y
 simp
theorem bytes_runes:∀(l:List Int),validAll l→runesI (bytesF l)=l
 | [],_=>rfl
 | r::t,h=>by
   have hv:=h r (by simp)
   have hg:=bytes_go r t hv
   have hp:=enc_pos r
   have h0:0<(bytesF (r::t)).size:=by rw [bytesF,ByteArray.size_append];omega
   have hr:0≤r:=by unfold validRune at hv;rw [decide_eq_true_eq] at hv;omega
   have e1:decR (bytesF (r::t))=r:=by unfold decR;rw [hg];show ((r.toNat:Nat):Int)=r;omega
   have e2:decN (bytesF (r::t))=(Utf8.encode r).size:=by unfold decN;rw [hg]
   rw [runesI_cons _ h0,e1,e2]
   have:(bytesF (r::t)).extract (Utf8.encode r).size (bytesF (r::t)).size=bytesF t:=by rw [bytesF];exact app_tail _ _
   rw [this,bytes_runes t (fun x hx=>h x (by simp [hx]))]
def badF (s:ByteArray):Nat→Nat→Bool
 | 0,_=>false
 | f+1,i=>if i<s.size then (decide (((Utf8.decode s i).1:Int)=65533)&&decide ((Utf8.decode s i).2=1))||badF s f (i+(Utf8.decode s i).2) else false
def badI (s:ByteArray):Bool:=badF s s.size 0
theorem badF_fuel (s:ByteArray):∀(f g i:Nat),s.size≤i+f→s.size≤i+g→badF s f i=badF s g i
 | 0,0,i,hf,hg=>rfl
 | 0,g+1,i,hf,hg=>by rw [badF,badF,if_neg (by omega)]
 | f+1,0,i,hf,hg=>by rw [badF,badF,if_neg (by omega)]
 | f+1,g+1,i,hf,hg=>by
   rw [badF,badF]
   split
   ·rename_i h
    have:=Lib.decode_width_pos s i h
    rw [badF_fuel s f g _ (by omega) (by omega)]
   ·rfl
theorem badF_shift (s:ByteArray) (i:Nat) (hi:i≤s.size):∀(f j:Nat),badF (s.extract i s.size) f j=badF s f (i+j)
 | 0,j=>rfl
 | f+1,j=>by
   rw [badF,badF,ext_size s i hi,dec_ext s i j hi]
   by_cases h:i+j<s.size
   ·rw [if_pos (by omega),if_pos h,badF_shift s i hi f,Nat.add_assoc]
   ·rw [if_neg (by omega),if_neg h]
theorem bad_cons (t:ByteArray) (h:0<t.size):badI t=((decide (decR t=65533)&&decide (decN t=1))||badI (t.extract (decN t) t.size)):=by
 have hn:=decN_le t
 unfold badI
 obtain⟨k,hk⟩:∃k,t.size=k+1:=⟨t.size-1,by omega⟩
 rw [badF_shift t (decN t) hn,ext_size t _ hn]
 rw [hk,badF,if_pos (by omega),dec_go t h,Nat.zero_add,Nat.add_zero]
 have hp:=decN_pos t h
 show (_||badF t k (decN t))=_
 rw [badF_fuel t k (k+1-decN t) (decN t) (by omega) (by omega)]
 rfl
theorem ext_join (t:ByteArray) (k:Nat) (h:k≤t.size):t.extract 0 k++t.extract k t.size=t:=by
 apply ByteArray.ext
 simp [ByteArray.data_extract]
theorem good_bytes:∀(n:Nat) (t:ByteArray),t.size≤n→badI t=false→bytesF (runesI t)=t
 | 0,t,hn,h=>by
   have h0:t.size=0:=by omega
   rw [runesI_nil t h0,bytesF]
   apply ByteArray.ext
   exact (Array.eq_empty_of_size_eq_zero h0).symm
 | n+1,t,hn,h=>by
   by_cases h0:t.size=0
   ·rw [runesI_nil t h0,bytesF]
    apply ByteArray.ext
    exact (Array.eq_empty_of_size_eq_zero h0).symm
   ·have hp:=decN_pos t (by omega)
    have hl:=decN_le t
    rw [bad_cons t (by omega),Bool.or_eq_false_iff] at h
    have hv:¬ (decR t=65533∧decN t=1):=by
     rintro⟨e1,e2⟩
     have:=h.1
     rw [decide_eq_true e1,decide_eq_true e2] at this
     cases this
    rw [runesI_cons t (by omega),bytesF,enc_dec t (by omega) hv,good_bytes n _ (by rw [ext_size t _ hl];omega) h.2,ext_join t _ hl]
theorem dec_valid (t:ByteArray) (h:0<t.size):validRune (decR t)=true:=by
 have hd:=dec_go t h
 rw [Lib.decode_at] at hd
 unfold decR
 rw [←hd]
 unfold validRune
 rw [decide_eq_true_eq]
 rcases Lib.decodeN_shape (t.size-0) (t.get! 0).toNat (t.get! (0+1)).toNat (t.get! (0+2)).toNat (t.get! (0+3)).toNat with ⟨c,e⟩ | ⟨c1,c2,c3,cv,e⟩ | ⟨c1,c2,c3,c4,cv,cs,e⟩ | ⟨c1,c2,c3,c4,c5,cv,cw,e⟩ | e
 all_goals (rw [e];dsimp only;have k0:=(t.get! 0).toNat_lt;have k1:=(t.get! (0+1)).toNat_lt;have k2:=(t.get! (0+2)).toNat_lt;have k3:=(t.get! (0+3)).toNat_lt;omega)
theorem runes_valid:∀(n:Nat) (t:ByteArray),t.size≤n→validAll (runesI t)
 | 0,t,hn=>by rw [runesI_nil t (by omega)];intro r hr;cases hr
 | n+1,t,hn=>by
   by_cases h0:t.size=0
   ·rw [runesI_nil t h0];intro r hr;cases hr
   ·have hp:=decN_pos t (by omega)
    have hl:=decN_le t
    rw [runesI_cons t (by omega)]
    intro r hr
    rcases List.mem_cons.1 hr with rfl | hr
    ·exact dec_valid t (by omega)
    ·exact runes_valid n _ (by rw [ext_size t _ hl];omega) r hr
end
section
structure Pc where
 a:Nat
 size:Nat
 c0:Nat
 c1:Nat
 level:Nat
 became:ByteArray
 shown:ByteArray
 wide:Int
 e0:Int
 e1:Int
instance:Inhabited Pc:=⟨⟨0,0,0,0,0,⟨#[]⟩,⟨#[]⟩,0,0,0⟩⟩
def pc0 (a size c0 c1:Nat):Pc:=⟨a,size,c0,c1,0,⟨#[]⟩,⟨#[]⟩,0,0,0⟩
def findF:List (Nat × ByteArray)→Nat→List Pc
 | [],_=>[]
 | p::t,n=>pc0 p.1 p.2.size n (n+(runesI p.2).length)::findF t (n+(runesI p.2).length)
def rowA (s:ByteArray) (ra:Int):Nat:=min ra.toNat s.size
def rowB (s:ByteArray) (ra rl:Int):Nat:=rowA s ra+min rl.toNat (s.size-rowA s ra)
def rowFr (s:ByteArray) (ra:Int):Nat:=upB s (rowA s ra)
def rowTo (s:ByteArray) (ra rl:Int):Nat:=upB s (rowB s ra rl)
def foundI (s:ByteArray) (fr tt:Nat):List Pc:=findF (inPs s fr tt) 0
def ownLv (s:ByteArray) (want:Int) (fr m:Nat):List Nat :=
 (rowI (runesI s) (visualI (runesI s) want).1 (visualI (runesI s) want).2.toNat (runesI (s.extract 0 fr)).length ((runesI (s.extract 0 fr)).length+m:Nat)).getD []
def lastC (L:List Pc):Nat:=(L.getLastD default).c1
def levelP (own:List Nat) (p:Pc):Pc:={ p with level:=own.getD p.c0 0 }
def levelsI (s:ByteArray) (want:Int) (raw:Bool) (fr:Nat) (L:List Pc):List Pc:=if raw=true then L else L.map (levelP (ownLv s want fr (lastC L)))
def baseR (s:ByteArray) (want:Int) (raw:Bool):Nat:=if raw=true then 0 else (visualI (runesI s) want).2.toNat
def becomeI (text:ByteArray) (own:List Int) (odd:Bool):ByteArray:=if badI text=true then text else if odd=true then bytesF (mirrorI (ith own 0)::own.tail) else bytesF own
def changeP (s:ByteArray) (rs:List Int) (p:Pc):Pc:={ p with became:=becomeI (s.extract p.a (p.a+p.size)) ((rs.drop p.c0).take (p.c1-p.c0)) (decide (p.level % 2=1)) }
def blankP (s:ByteArray) (p:Pc):Bool:=blankC (s.extract p.a s.size)
def tailF (s:ByteArray) (L:List Pc):Nat→Nat
 | 0=>0
 | t+1=>if blankP s (L.getD t default)=true then tailF s L t else t+1
def layF (rw tab:Int) (wideA raw:Bool):List Pc→Nat→Int→Int→List Pc × Int
 | [],_,x,_=>([],x)
 | p::t,i,x,tail =>
   if 0≤(if tail≤(i:Int)∧rw<x+(textI p.became x tab wideA raw).2 then -1 else tail) then
    ({p with shown:=(textI p.became x tab wideA raw).1,wide:=(textI p.became x tab wideA raw).2 }::(layF rw tab wideA raw t (i+1) (x+(textI p.became x tab wideA raw).2) (if tail≤(i:Int)∧rw<x+(textI p.became x tab wideA raw).2 then -1 else tail)).1,
      (layF rw tab wideA raw t (i+1) (x+(textI p.became x tab wideA raw).2) (if tail≤(i:Int)∧rw<x+(textI p.became x tab wideA raw).2 then -1 else tail)).2)
   else (p::(layF rw tab wideA raw t (i+1) x (-1)).1,(layF rw tab wideA raw t (i+1) x (-1)).2)
def edgeF:List Int→Int→List Pc→List Pc
 | [],_,L=>L
 | i::t,x,L=>edgeF t (x+(L.getD i.toNat default).wide) (L.set i.toNat { L.getD i.toNat default with e0:=x,e1:=x+(L.getD i.toNat default).wide })
structure LaidR where
 l:List Pc
 seen:List Int
 fr:Nat
 tt:Nat
 base:Nat
 wide:Int
end
section
theorem mem_piece (s:ByteArray):∀(f a:Nat),a≤s.size→∀q∈piecesF s f a,q.2=s.extract q.1 (q.1+q.2.size)
 | 0,a,ha,q,hq=>by simp [piecesF] at hq
 | f+1,a,ha,q,hq=>by
   rw [piecesF] at hq
   by_cases h:a<s.size
   ·rw [if_pos h] at hq
    have hz:=ext_size s a ha
    have hn:=nextI_bd (s.extract a s.size) (by omega)
    rcases List.mem_cons.1 hq with rfl | hq
    ·have:(s.extract a (a+nextI (s.extract a s.size))).size=nextI (s.extract a s.size):=by simp [ByteArray.size_extract];omega
     show _=s.extract a (a+(s.extract a (a+nextI (s.extract a s.size))).size)
     rw [this]
    ·exact mem_piece s f _ (by omega) q hq
   ·rw [if_neg h] at hq;cases hq
theorem mem_inPs {s:ByteArray} {fr tt:Nat} {q:Nat × ByteArray} (h:q∈inPs s fr tt):q.2=s.extract q.1 (q.1+q.2.size) :=
 mem_piece s s.size 0 (Nat.zero_le _) q (List.mem_filter.1 h).1
theorem findF_len:∀(ps:List (Nat × ByteArray)) (n:Nat),(findF ps n).length=ps.length
 | [],_=>rfl
 | p::t,n=>by rw [findF,List.length_cons,findF_len t,List.length_cons]
theorem findF_get:∀(ps:List (Nat × ByteArray)) (n i:Nat) (p:Nat × ByteArray),ps[i]? = some p →
 (findF ps n)[i]? = some (pc0 p.1 p.2.size (n+(((ps.take i).map (·.2)).flatMap runesI).length) (n+(((ps.take i).map (·.2)).flatMap runesI).length+(runesI p.2).length))
 | [],n,i,p,h=>by simp at h
 | q::t,n,0,p,h=>by
   have:q=p:=by simpa using h
   subst this
   simp [findF]
 | q::t,n,i+1,p,h=>by
   rw [findF,List.getElem?_cons_succ,findF_get t _ i p (by simpa using h),List.take_succ_cons,List.map_cons,List.flatMap_cons,List.length_append,←Nat.add_assoc]
theorem findF_snoc:∀(ps:List (Nat × ByteArray)) (n:Nat) (p:Nat × ByteArray),
 findF (ps++[p]) n=findF ps n++[pc0 p.1 p.2.size (n+((ps.map (·.2)).flatMap runesI).length) (n+((ps.map (·.2)).flatMap runesI).length+(runesI p.2).length)]
 | [],n,p=>by simp [findF]
 | q::t,n,p=>by
   rw [List.cons_append,findF,findF_snoc t,findF,List.cons_append,List.map_cons,List.flatMap_cons,List.length_append,←Nat.add_assoc]
theorem take_mid {α:Type} (A B C:List α):((A++B++C).drop A.length).take B.length=B:=by
 rw [List.append_assoc,List.drop_left,List.take_left]
theorem found_get {s:ByteArray} {fr tt k m:Nat} (hf:Bord s fr k) (ht:Bord s tt m) (h:fr≤tt) (i:Nat) (p:Pc) (hp:(foundI s fr tt)[i]? = some p) :
 fr≤p.a∧p.a+p.size≤tt∧0<p.size∧p=pc0 p.a p.size p.c0 p.c1∧p.c0<p.c1∧p.c1≤(runesI (s.extract fr tt)).length ∧
  ((runesI (s.extract fr tt)).drop p.c0).take (p.c1-p.c0)=runesI (s.extract p.a (p.a+p.size))∧(i+1=(foundI s fr tt).length→p.c1=(runesI (s.extract fr tt)).length):=by
 obtain⟨_,h2,_,h4,_⟩:=inPs_spec hf ht h
 have hr:runesI (s.extract fr tt)=((inPs s fr tt).map (·.2)).flatMap runesI:=by rw [runes_all (s.extract fr tt),h2]
 unfold foundI at hp ⊢
 have hil:i<(inPs s fr tt).length:=by
  have:=(List.getElem?_eq_some_iff.1 hp).1
  rwa [findF_len] at this
 rw [findF_len]
 obtain⟨q,hq⟩:∃q,(inPs s fr tt)[i]? = some q:=⟨_,List.getElem?_eq_getElem hil⟩
 have hqm:q∈inPs s fr tt:=List.mem_of_getElem? hq
 obtain⟨g1,g2,g3⟩:=h4 q hqm
 have hqe:=mem_inPs hqm
 rw [findF_get _ 0 i q hq] at hp
 have hp:=(Option.some.inj hp).symm
 have hsplit:inPs s fr tt=(inPs s fr tt).take i++[q]++(inPs s fr tt).drop (i+1):=by
  have h1:=List.take_append_drop (i+1) (inPs s fr tt)
  rw [List.take_add_one,hq] at h1
  exact h1.symm
 have hr2:runesI (s.extract fr tt)=(((inPs s fr tt).take i).map (·.2)).flatMap runesI++runesI q.2++(((inPs s fr tt).drop (i+1)).map (·.2)).flatMap runesI:=by
  rw [hr]
  conv=>lhs;rw [hsplit]
  simp
 have hrl:=congrArg List.length hr2
 rw [List.length_append,List.length_append] at hrl
 have hpos:=runesI_pos2 q.2 g3
 subst hp
 refine⟨g1,g2,g3,rfl,?_,?_,?_,fun hl=>?_⟩
 ·show 0+_<0+_+_
  omega
 ·show 0+_+_≤_
  omega
 ·show ((runesI (s.extract fr tt)).drop (0+_)).take (0+_+(runesI q.2).length-(0+_))=runesI (s.extract q.1 (q.1+q.2.size))
  rw [hr2,←hqe,Nat.zero_add,Nat.add_sub_cancel_left]
  exact take_mid _ _ _
 ·show 0+_+_=_
  have:(inPs s fr tt).drop (i+1)=[]:=List.drop_eq_nil_of_le (by omega)
  rw [this] at hrl
  simp at hrl
  simp
  omega
theorem rowI_some (cs:List Int) (ls:List Nat) (base a m:Nat) (h1:a+m≤cs.length) (h2:ls.length=cs.length):∃l,rowI cs ls base (a:Int) ((a+m:Nat):Int)=some l∧l.length=m:=by
 have e1:min cs.length ls.length=cs.length:=by omega
 have e2:clampN cs.length (a:Int)=a:=by unfold clampN;omega
 have e3:clampN cs.length ((a+m:Nat):Int)=a+m:=by unfold clampN;omega
 unfold rowI
 simp only [e1,e2,e3]
 rw [if_neg (by omega)]
 refine⟨_,rfl,?_⟩
 rw [hangF_len,List.length_take,List.length_drop]
 omega
end
end Go.Proofs.YtlmjbfncopbilaaGreatDoor
