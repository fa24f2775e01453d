/- Part 10 (merged by a program): lemmas of no further condition than each states. -/
import Derived.Laws.Cover4
import Derived.Laws.IdiomStrings
import Derived.Lib.DecodeN
import Derived.Test.YtlmjbfncopbilaaGreatDoorK08
namespace Go.Proofs.YtlmjbfncopbilaaGreatDoor
set_option linter.unusedVariables false
set_option linter.unusedSimpArgs false
section
open Go.RowKit Go.Proofs Go.Shelf
attribute [local go_sem] Oper.semAt_some
theorem Tryz.extra105:Builder.Extra Tryz.prog Tryz.lays105_ren where
 sizeBuilder:=by kernel_rfl
 liesBuilder:=by kernel_rfl
 t5:=Tryz.underlying5
 a5:=Tryz.isAgg5
 z5:=Tryz.sizeOf5
 v5:=Tryz.zeroValue5
 infoByte:=by kernel_rfl
 cellsByte:=by kernel_rfl
 sizeByte:=by kernel_rfl
 neB5:=by decide
def spaces (n:Nat):ByteArray:=⟨(Lib.repeatL [32] n).toArray⟩
theorem spaces_any (n:Nat) (hn:n≤100) (w:World):Calls Tryz.prog 172 #[.string ⟨#[32]⟩,.int .i64 n] w fun e w'=>e=.returned (.string (spaces n))∧Below w.heap.size w w':=by
 have:=Any.strings_Repeat Tryz.lays105 Tryz.extra105 ⟨#[32]⟩ n w (by omega) (by show 1*n≤_;omega)
 exact this
theorem stopI_bd (col tab:Int):0≤stopI col tab∧stopI col tab≤16:=by
 unfold stopI
 split
 ·omega
 ·have m1:=Int.emod_nonneg (max col 0) (b:=tab) (by omega)
  have m2:=Int.emod_lt_of_pos (max col 0) (b:=tab) (by omega)
  omega
def toldB (x:Int):Bool:=(decide (128≤x)&&decide (x≤159))||(decide (x=8232)||decide (x=8233)||(decide (kindI x=1)&&!joinerB x))
def oneI (c:ByteArray) (rs:List Int) (col tab:Int) (wide raw:Bool):ByteArray × Int :=
 if ith rs 0=9 then (spaces (stopI col tab).toNat,stopI col tab)
 else if ith rs 0=10∨ith rs 1=10 then (⟨#[]⟩,0)
 else if ith rs 0<32∨ith rs 0=127 then (⟨#[94]⟩++runesBytes [bits BinOp.xor IntKind.i32 (ith rs 0) 64],2)
 else if toldB (ith rs 0)=true then (if raw=true then (namedS (ith rs 0).toNat,((namedS (ith rs 0).toNat).size:Int)) else (⟨#[]⟩,0))
 else if kindI (ith rs 0)=2∨joinerB (ith rs 0)=true then (⟨#[226,151,140]⟩++runesBytes (rs.take 31),1)
 else if (regionalB (ith rs 0)=true∧regionalB (ith rs 1)=true)∨(kindI (ith rs 0)=7∧wideI (ith rs 0) wide=1∧ith rs 1=65039) then (c,2)
 else if wideI (ith rs 0) wide=0 then (⟨#[]⟩,0) else (c,wideI (ith rs 0) wide)
theorem flag_any (r:Int) (w:World):Calls Tryz.prog 174 #[.int .i32 r] w fun e w'=>e=.returned (.bool (regionalB r))∧w=w':=by
 go_enter Tryz.func174,Tryz.ntmps174
 go_wp2
 all_goals (go_ret;refine⟨ret_b ?_,rfl⟩;unfold regionalB;rw [Bool.eq_iff_iff];simp;try omega)
theorem conv_one (W:World) (v:Int):(convert 137 9 (.slice (some ⟨W.heap.size,0,none⟩) 1 1)).run Tryz.prog (W.alloc (.cells #[.int .i32 v] 21))=.ok (.string (runesBytes [v])) (W.alloc (.cells #[.int .i32 v] 21)):=by
 have h:=run_convert_runes (P:=Tryz.prog) (W.alloc (.cells #[.int .i32 v] 21)) 137 9 21 ⟨W.heap.size,0,none⟩ 1 1 [v] (Nat.le_refl _) Tryz.underlying137 Tryz.underlying21 Tryz.underlying9 (fun j hj=>by
  obtain rfl:j=0:=by simpa using hj
  exact World.cell?_alloc_mark W #[.int .i32 v] 21 (0,0) 0)
 exact h
theorem addr_add (b off j:Nat):(⟨b,off,none⟩:Addr).add j=⟨b,off+j,none⟩:=by
 unfold Addr.add
 split
 ·rename_i h;rw [h];rfl
 ·rfl
theorem two_ret {S T:ByteArray} {m k:Int} (h:(S,m)=(T,k)):Ending.returned (.tuple #[.string S,.int .i64 m])=.returned (.tuple #[.string T,.int .i64 k]):=by
 cases h;rfl
set_option maxRecDepth 100000 in
set_option maxHeartbeats 1000000 in
theorem one_any (c:ByteArray) (rs:List Int) (n cap b off:Nat) (hn:rs.length=n) (hn0:0<n) (hnc:n≤cap) (hz:n≤4294967296) (col tab want:Int) (wide join raw:Bool) (w:World)
 (hr:Rd .i32 w (some ⟨b,off,none⟩) rs) (hx:0≤ith rs 0∧ith rs 0<2147483648) (hD:DB w) :
 Calls Tryz.prog 131 #[.string c,.slice (some ⟨b,off,none⟩) n cap,.int .i64 col,lookV tab want wide join raw] w fun e w' =>
  e=.returned (.tuple #[.string (oneI c rs col tab wide raw).1,.int .i64 (oneI c rs col tab wide raw).2])∧Below w.heap.size w w':=by
 obtain⟨p,hp⟩:∃p,oneI c rs col tab wide raw=p:=⟨_,rfl⟩
 rw [hp]
 have hcells:b<w.heap.size∧∀i,i<n→w.cell? ⟨b,off+i,none⟩=some (.int .i32 (ith rs i)):=by
  rcases hr with h | ⟨b',off',h1,h2,h3⟩
  ·subst h;simp at hn;omega
  ·cases h1
   rw [hn] at h3
   exact⟨h2,h3⟩
 obtain⟨hb0,hc⟩:=hcells
 have hc0:=hc 0 hn0
 rw [Nat.add_zero] at hc0
 unfold oneI at hp
 obtain⟨x,hxx⟩:∃x,ith rs 0=x:=⟨_,rfl⟩
 obtain⟨y,hyy⟩:∃y,ith rs 1=y:=⟨_,rfl⟩
 have hy1:¬ 1<n→y=0:=fun h=>by
  rw [←hyy]
  unfold ith
  rw [List.getD_eq_getElem?_getD,List.getElem?_eq_none (by omega)]
  rfl
 have hc1:1<n→w.cell? ⟨b,off+1,none⟩=some (.int .i32 y):=fun h=>by rw [hc 1 h,hyy]
 rw [hxx] at hc0 hx
 rw [hxx,hyy] at hp
 have HP:=lh hp
 have HC:=lh hc
 have HD:=lh (fun (W:World) (hb:Below w.heap.size w W)=>hD.below hb)
 clear hr hD hp hc hxx hyy
 go_enter Tryz.func131,Tryz.ntmps131
 go_upto_region 1 with (fail)
 have hb1:Below w.heap.size w (w.alloc (.cells #[.int .i64 tab,.bool wide,.int .i8 want,.bool join,.bool raw] 26)):=(Below.refl _ _).alloc (Nat.le_refl _) _
 have hL:(w.alloc (.cells #[.int .i64 tab,.bool wide,.int .i8 want,.bool join,.bool raw] 26)).heap[w.heap.size]? = some (.cells #[.int .i64 tab,.bool wide,.int .i8 want,.bool join,.bool raw] 26 (0,0)):=World.alloc_heap_new w _
 generalize w.alloc (.cells #[.int .i64 tab,.bool wide,.int .i8 want,.bool join,.bool raw] 26)=W1 at hb1 hL ⊢
 have HB:=hb1
 have k0:W1.cell? ⟨w.heap.size,0,none⟩=some (.int .i64 tab):=by simp [World.cell?,hL]
 have c1:W1.cell? ⟨w.heap.size,1,none⟩=some (.bool wide):=by simp [World.cell?,hL]
 have k2:W1.cell? ⟨w.heap.size,2,none⟩=some (.int .i8 want):=by simp [World.cell?,hL]
 have k3:W1.cell? ⟨w.heap.size,3,none⟩=some (.bool join):=by simp [World.cell?,hL]
 have c4:W1.cell? ⟨w.heap.size,4,none⟩=some (.bool raw):=by simp [World.cell?,hL]
 have e0:=cell_bl hb1 hb0 hc0
 have e1:=fun h=>cell_bl hb1 hb0 (hc1 h)
 have gn:(0:Int)<(n:Int):=by omega
 clear hL hc0 hc1
 go_upto_if 21 with (fail)
 go_cut [11] (fun v wx=>v=.int .i32 y∧wx=W1)
 case first =>
  by_cases h1:1<n
  ·have g1:(n:Int) > 1:=by omega
   have g2:(1:Int)<(n:Int):=by omega
   have e1:=e1 h1
   go_wp2_with (fail)
   go_meet
   exact⟨by first | rfl | simp,rfl⟩
  ·have g1:¬ (n:Int) > 1:=by omega
   go_wp2_with (fail)
   go_meet
   have hy:=hy1 h1
   subst hy
   exact⟨by first | rfl | simp,rfl⟩
 case rest =>
  obtain⟨rfl,hwx⟩:=hcut
  have hwx':=hwx.symm
  clear hwx
  subst hwx'
  clear e0 e1 hy1
  rename_i hKK
  refine hKK _ _ ?_
  clear hKK
  by_cases x9:x=9
  ·subst x9
   have hp:=HP.out
   rw [if_pos rfl] at hp
   obtain⟨k,hk⟩:∃k:Nat,stopI col tab=k:=⟨(stopI col tab).toNat,by have:=stopI_bd col tab;omega⟩
   have hk2:k≤16:=by have:=stopI_bd col tab;omega
   have HS:=lh (fun W=>stop_any col tab want wide join raw W)
   rw [hk] at HS
   have HR:=lh (fun W=>spaces_any k (by omega) W)
   rw [hk,Int.toNat_natCast] at hp
   clear HP
   go_wp2_with (first | (go_at_call 171;refine (HS.out _).mono ?_;rintro e w' ⟨rfl,hb'⟩;replace HB:=HB.trans (hb'.mono HB.size);replace c1:=cell_bl hb' (cell_lt c1) c1;replace c4:=cell_bl hb' (cell_lt c4) c4) | (go_at_call 172;refine (HR.out _).mono ?_;rintro e w' ⟨rfl,hb'⟩;replace HB:=HB.trans (hb'.mono HB.size);replace c1:=cell_bl hb' (cell_lt c1) c1;replace c4:=cell_bl hb' (cell_lt c4) c4))
   go_ret2
   rw [←hp]
   exact⟨rfl,HB⟩
  have n9:(x==9)=false:=by simpa using x9
  clear k0 k2 k3
  by_cases x10:x=10
  ·subst x10
   have hp:=HP.out
   rw [if_neg (by decide),if_pos (.inl rfl)] at hp
   go_wp2_with (fail)
   go_ret2
   rw [←hp]
   exact⟨rfl,HB⟩
  have n10:(x==10)=false:=by simpa using x10
  by_cases y10:y=10
  ·subst y10
   have hp:=HP.out
   rw [if_neg x9,if_pos (.inr rfl)] at hp
   go_wp2_with (fail)
   go_ret2
   rw [←hp]
   exact⟨rfl,HB⟩
  have ny10:(y==10)=false:=by simpa using y10
  by_cases hC:x<32∨x=127
  ·have hp:=HP.out
   rw [if_neg x9,if_neg (by rintro (h | h);exact x10 h;exact y10 h),if_pos hC] at hp
   have hcv:=conv_one W1 (bits BinOp.xor IntKind.i32 x 64)
   have hsz:=runesBytes_size_le [bits BinOp.xor IntKind.i32 x 64]
   generalize runesBytes [bits BinOp.xor IntKind.i32 x 64]=S at hp hcv hsz
   have hs4:S.size≤4:=hsz
   clear hsz
   have HB2:=HB.alloc (HB.size) (.cells #[.int .i32 (bits BinOp.xor IntKind.i32 x 64)] 21)
   clear HP
   rcases hC with l32 | x127
   ·have gl:x<32:=l32
    go_wp2_with (fail)
    go_ret2
    rw [←hp]
    exact⟨rfl,HB2⟩
   ·subst x127
    go_wp2_with (fail)
    go_ret2
    rw [←hp]
    exact⟨rfl,HB2⟩
  have l32:¬ x<32:=fun h=>hC (.inl h)
  have x127:¬ x=127:=fun h=>hC (.inr h)
  have n127:(x==127)=false:=by simpa using x127
  obtain⟨kd,hkd⟩:∃kd,kindI x=kd:=⟨_,rfl⟩
  have HK:=lh (fun W=>Kind_any x W)
  rw [hkd] at HK
  have hp:=HP.out
  rw [if_neg x9,if_neg (by rintro (h | h);exact x10 h;exact y10 h),if_neg hC,hkd] at hp
  have HP2:=lh hp
  clear hp HP hC
  by_cases hD:128≤x∧x≤159
  ·have hT:toldB x=true:=by unfold toldB;simp;omega
   have hp:=HP2.out
   rw [if_pos hT] at hp
   have HN:Hid (∀W,Below w.heap.size w W→Calls Tryz.prog 173 #[.int .i32 x] W fun e w'=>e=.returned (.string (namedS x.toNat))∧Below W.heap.size W w'):=lh (fun W hb=>by
    have:=named_any x.toNat (by omega) W (HD.out W hb)
    rwa [Int.toNat_of_nonneg hx.1] at this)
   generalize namedS x.toNat=S at hp HN
   obtain⟨d1,d2⟩:=hD
   clear HP2 hT hkd
   cases raw with
   | true =>
     rw [if_pos rfl] at hp
     go_wp2_with (first | (go_at_call 173;refine (HN.out _ HB).mono ?_;rintro e w' ⟨rfl,hb'⟩;replace HB:=HB.trans (hb'.mono HB.size);replace c1:=cell_bl hb' (cell_lt c1) c1;replace c4:=cell_bl hb' (cell_lt c4) c4))
     go_ret2
     rw [←hp]
     exact⟨rfl,HB⟩
   | false =>
     rw [if_neg (by decide)] at hp
     go_wp2_with (first | (go_at_call 173;refine (HN.out _ HB).mono ?_;rintro e w' ⟨rfl,hb'⟩;replace HB:=HB.trans (hb'.mono HB.size);replace c1:=cell_bl hb' (cell_lt c1) c1;replace c4:=cell_bl hb' (cell_lt c4) c4))
     go_ret2
     rw [←hp]
     exact⟨rfl,HB⟩
  go_upto_region 10 with (fail)
  go_cut [38] (fun v wx=>v=.bool false∧wx=W1)
  case first =>
   by_cases d1:128≤x
   ·have d2:¬ x≤159:=fun h=>hD ⟨d1,h⟩
    go_wp2_with (fail)
    go_meet
    exact⟨by first | rfl | simp,rfl⟩
   ·go_wp2_with (fail)
    go_meet
    exact⟨by first | rfl | simp,rfl⟩
  case rest =>
   obtain⟨rfl,hwx⟩:=hcut
   have hwx':=hwx.symm
   clear hwx
   subst hwx'
   have hT1:toldB x=(decide (x=8232)||decide (x=8233)||(decide (kd=1)&&!joinerB x)):=by
    unfold toldB
    rw [hkd,show (decide (128≤x)&&decide (x≤159))=false by rw [Bool.and_eq_false_iff];simp;omega,Bool.false_or]
   rw [hT1] at HP2
   clear hT1
   by_cases x2:x=8232∨x=8233
   ·have hp:=HP2.out
    rw [if_pos (by rcases x2 with h | h <;> simp [h])] at hp
    have HN:Hid (∀W,Below w.heap.size w W→Calls Tryz.prog 173 #[.int .i32 x] W fun e w'=>e=.returned (.string (namedS x.toNat))∧Below W.heap.size W w'):=lh (fun W hb=>by
     have:=named_any x.toNat (by omega) W (HD.out W hb)
     rwa [Int.toNat_of_nonneg hx.1] at this)
    generalize namedS x.toNat=S at hp HN
    clear HP2 hkd
    rcases x2 with rfl | rfl
    ·skip
     cases raw with
     | true =>
       rw [if_pos rfl] at hp
       go_wp2_with (first | (go_at_call 173;refine (HN.out _ HB).mono ?_;rintro e w' ⟨rfl,hb'⟩;replace HB:=HB.trans (hb'.mono HB.size);replace c1:=cell_bl hb' (cell_lt c1) c1;replace c4:=cell_bl hb' (cell_lt c4) c4))
       go_ret2
       rw [←hp]
       exact⟨rfl,HB⟩
     | false =>
       rw [if_neg (by decide)] at hp
       go_wp2_with (first | (go_at_call 173;refine (HN.out _ HB).mono ?_;rintro e w' ⟨rfl,hb'⟩;replace HB:=HB.trans (hb'.mono HB.size);replace c1:=cell_bl hb' (cell_lt c1) c1;replace c4:=cell_bl hb' (cell_lt c4) c4))
       go_ret2
       rw [←hp]
       exact⟨rfl,HB⟩
    ·skip
     cases raw with
     | true =>
       rw [if_pos rfl] at hp
       go_wp2_with (first | (go_at_call 173;refine (HN.out _ HB).mono ?_;rintro e w' ⟨rfl,hb'⟩;replace HB:=HB.trans (hb'.mono HB.size);replace c1:=cell_bl hb' (cell_lt c1) c1;replace c4:=cell_bl hb' (cell_lt c4) c4))
       go_ret2
       rw [←hp]
       exact⟨rfl,HB⟩
     | false =>
       rw [if_neg (by decide)] at hp
       go_wp2_with (first | (go_at_call 173;refine (HN.out _ HB).mono ?_;rintro e w' ⟨rfl,hb'⟩;replace HB:=HB.trans (hb'.mono HB.size);replace c1:=cell_bl hb' (cell_lt c1) c1;replace c4:=cell_bl hb' (cell_lt c4) c4))
       go_ret2
       rw [←hp]
       exact⟨rfl,HB⟩
   have n2:x≠8232:=fun h=>x2 (.inl h)
   have n3:x≠8233:=fun h=>x2 (.inr h)
   have m2:(x==8232)=false:=by simpa using n2
   have m3:(x==8233)=false:=by simpa using n3
   by_cases j4:x=8204∨x=8205
   ·have hj:joinerB x=true:=by unfold joinerB;rcases j4 with h | h <;> simp [h]
    have hp:=HP2.out
    rw [hj,if_neg (by simp [n2,n3]),if_pos (.inr rfl)] at hp
    have hsz:=runesBytes_size_le (rs.take 31)
    have hcv:∀W,Below w.heap.size w W→(convert 137 9 (.slice (some ⟨b,off,none⟩) (min (n:Int) 31).toNat cap)).run Tryz.prog W=.ok (.string (runesBytes (rs.take 31))) W:=fun W hb=>by
     have h:=run_convert_runes (P:=Tryz.prog) W 137 9 21 ⟨b,off,none⟩ (min (n:Int) 31).toNat cap rs (by omega) Tryz.underlying137 Tryz.underlying21 Tryz.underlying9 (fun j hj=>by have h:=cell_bl hb hb0 (HC.out j (by omega));rw [addr_add];exact h)
     rw [h]
     congr 3
     rw [←hn,List.take_eq_take_iff]
     omega
    have hs4:(runesBytes (rs.take 31)).size≤124:=by rw [List.length_take] at hsz;omega
    generalize runesBytes (rs.take 31)=S at hp hcv hs4
    have HCV:=lh hcv
    clear hcv hsz hj HP2
    by_cases k2:kd=2
    ·subst k2
     clear hkd
     rcases j4 with rfl | rfl
     ·skip
      go_upto_region 25 with (first | (go_at_call 107;refine (HK.out _).mono ?_;rintro e w' ⟨rfl,hb'⟩;replace HB:=HB.trans (hb'.mono HB.size);replace c1:=cell_bl hb' (cell_lt c1) c1;replace c4:=cell_bl hb' (cell_lt c4) c4))
      have hcv:=HCV.out _ HB
      clear HCV
      have g31:min (n:Int) 31≤(cap:Int):=by omega
      have g30:(0:Int)≤min (n:Int) 31:=by omega
      go_wp2_with (fail)
      go_ret2
      rw [←hp]
      exact⟨rfl,HB⟩
     ·skip
      go_upto_region 25 with (first | (go_at_call 107;refine (HK.out _).mono ?_;rintro e w' ⟨rfl,hb'⟩;replace HB:=HB.trans (hb'.mono HB.size);replace c1:=cell_bl hb' (cell_lt c1) c1;replace c4:=cell_bl hb' (cell_lt c4) c4))
      have hcv:=HCV.out _ HB
      clear HCV
      have g31:min (n:Int) 31≤(cap:Int):=by omega
      have g30:(0:Int)≤min (n:Int) 31:=by omega
      go_wp2_with (fail)
      go_ret2
      rw [←hp]
      exact⟨rfl,HB⟩
    have k2':(kd==2)=false:=by simpa using k2
    by_cases k1:kd=1
    ·subst k1
     clear hkd
     rcases j4 with rfl | rfl
     ·skip
      go_upto_region 25 with (first | (go_at_call 107;refine (HK.out _).mono ?_;rintro e w' ⟨rfl,hb'⟩;replace HB:=HB.trans (hb'.mono HB.size);replace c1:=cell_bl hb' (cell_lt c1) c1;replace c4:=cell_bl hb' (cell_lt c4) c4))
      have hcv:=HCV.out _ HB
      clear HCV
      have g31:min (n:Int) 31≤(cap:Int):=by omega
      have g30:(0:Int)≤min (n:Int) 31:=by omega
      go_wp2_with (fail)
      go_ret2
      rw [←hp]
      exact⟨rfl,HB⟩
     ·skip
      go_upto_region 25 with (first | (go_at_call 107;refine (HK.out _).mono ?_;rintro e w' ⟨rfl,hb'⟩;replace HB:=HB.trans (hb'.mono HB.size);replace c1:=cell_bl hb' (cell_lt c1) c1;replace c4:=cell_bl hb' (cell_lt c4) c4))
      have hcv:=HCV.out _ HB
      clear HCV
      have g31:min (n:Int) 31≤(cap:Int):=by omega
      have g30:(0:Int)≤min (n:Int) 31:=by omega
      go_wp2_with (fail)
      go_ret2
      rw [←hp]
      exact⟨rfl,HB⟩
    have k1':(kd==1)=false:=by simpa using k1
    clear hkd
    rcases j4 with rfl | rfl
    ·skip
     go_upto_region 25 with (first | (go_at_call 107;refine (HK.out _).mono ?_;rintro e w' ⟨rfl,hb'⟩;replace HB:=HB.trans (hb'.mono HB.size);replace c1:=cell_bl hb' (cell_lt c1) c1;replace c4:=cell_bl hb' (cell_lt c4) c4))
     have hcv:=HCV.out _ HB
     clear HCV
     have g31:min (n:Int) 31≤(cap:Int):=by omega
     have g30:(0:Int)≤min (n:Int) 31:=by omega
     go_wp2_with (fail)
     go_ret2
     rw [←hp]
     exact⟨rfl,HB⟩
    ·skip
     go_upto_region 25 with (first | (go_at_call 107;refine (HK.out _).mono ?_;rintro e w' ⟨rfl,hb'⟩;replace HB:=HB.trans (hb'.mono HB.size);replace c1:=cell_bl hb' (cell_lt c1) c1;replace c4:=cell_bl hb' (cell_lt c4) c4))
     have hcv:=HCV.out _ HB
     clear HCV
     have g31:min (n:Int) 31≤(cap:Int):=by omega
     have g30:(0:Int)≤min (n:Int) 31:=by omega
     go_wp2_with (fail)
     go_ret2
     rw [←hp]
     exact⟨rfl,HB⟩
   have n4:x≠8204:=fun h=>j4 (.inl h)
   have n5:x≠8205:=fun h=>j4 (.inr h)
   have m4:(x==8204)=false:=by simpa using n4
   have m5:(x==8205)=false:=by simpa using n5
   have o4:(x != 8204)=true:=by simpa using n4
   have o5:(x != 8205)=true:=by simpa using n5
   have hj:joinerB x=false:=by unfold joinerB;simp [n4,n5]
   rw [hj] at HP2
   by_cases k1:kd=1
   ·subst k1
    have hp:=HP2.out
    rw [if_pos (by simp)] at hp
    have HN:Hid (∀W,Below w.heap.size w W→Calls Tryz.prog 173 #[.int .i32 x] W fun e w'=>e=.returned (.string (namedS x.toNat))∧Below W.heap.size W w'):=lh (fun W hb=>by
     have:=named_any x.toNat (by omega) W (HD.out W hb)
     rwa [Int.toNat_of_nonneg hx.1] at this)
    generalize namedS x.toNat=S at hp HN
    clear HP2 hkd
    cases raw with
    | true =>
      rw [if_pos rfl] at hp
      go_wp2_with (first | (go_at_call 107;refine (HK.out _).mono ?_;rintro e w' ⟨rfl,hb'⟩;replace HB:=HB.trans (hb'.mono HB.size);replace c1:=cell_bl hb' (cell_lt c1) c1;replace c4:=cell_bl hb' (cell_lt c4) c4) | (go_at_call 173;refine (HN.out _ HB).mono ?_;rintro e w' ⟨rfl,hb'⟩;replace HB:=HB.trans (hb'.mono HB.size);replace c1:=cell_bl hb' (cell_lt c1) c1;replace c4:=cell_bl hb' (cell_lt c4) c4))
      go_ret2
      rw [←hp]
      exact⟨rfl,HB⟩
    | false =>
      rw [if_neg (by decide)] at hp
      go_wp2_with (first | (go_at_call 107;refine (HK.out _).mono ?_;rintro e w' ⟨rfl,hb'⟩;replace HB:=HB.trans (hb'.mono HB.size);replace c1:=cell_bl hb' (cell_lt c1) c1;replace c4:=cell_bl hb' (cell_lt c4) c4) | (go_at_call 173;refine (HN.out _ HB).mono ?_;rintro e w' ⟨rfl,hb'⟩;replace HB:=HB.trans (hb'.mono HB.size);replace c1:=cell_bl hb' (cell_lt c1) c1;replace c4:=cell_bl hb' (cell_lt c4) c4))
      go_ret2
      rw [←hp]
      exact⟨rfl,HB⟩
   have k1':(kd==1)=false:=by simpa using k1
   have hp:=HP2.out
   rw [if_neg (by simp [n2,n3,k1])] at hp
   clear HP2
   by_cases k2:kd=2
   ·subst k2
    rw [if_pos (.inl rfl)] at hp
    have hsz:=runesBytes_size_le (rs.take 31)
    have hcv:∀W,Below w.heap.size w W→(convert 137 9 (.slice (some ⟨b,off,none⟩) (min (n:Int) 31).toNat cap)).run Tryz.prog W=.ok (.string (runesBytes (rs.take 31))) W:=fun W hb=>by
     have h:=run_convert_runes (P:=Tryz.prog) W 137 9 21 ⟨b,off,none⟩ (min (n:Int) 31).toNat cap rs (by omega) Tryz.underlying137 Tryz.underlying21 Tryz.underlying9 (fun j hj=>by have h:=cell_bl hb hb0 (HC.out j (by omega));rw [addr_add];exact h)
     rw [h]
     congr 3
     rw [←hn,List.take_eq_take_iff]
     omega
    have hs4:(runesBytes (rs.take 31)).size≤124:=by rw [List.length_take] at hsz;omega
    generalize runesBytes (rs.take 31)=S at hp hcv hs4
    have HCV:=lh hcv
    clear hcv hsz hj hkd
    go_upto_region 25 with (first | (go_at_call 107;refine (HK.out _).mono ?_;rintro e w' ⟨rfl,hb'⟩;replace HB:=HB.trans (hb'.mono HB.size);replace c1:=cell_bl hb' (cell_lt c1) c1;replace c4:=cell_bl hb' (cell_lt c4) c4))
    have hcv:=HCV.out _ HB
    clear HCV
    have g31:min (n:Int) 31≤(cap:Int):=by omega
    have g30:(0:Int)≤min (n:Int) 31:=by omega
    go_wp2_with (fail)
    go_ret2
    rw [←hp]
    exact⟨rfl,HB⟩
   have k2':(kd==2)=false:=by simpa using k2
   rw [if_neg (by rintro (h | h);exact k2 h;cases h)] at hp
   clear hkd hj
   obtain⟨wv,hwv⟩:∃wv,wideI x wide=wv:=⟨_,rfl⟩
   have HW:=lh (fun W=>Wide_any x wide W)
   rw [hwv] at HW hp
   obtain⟨rx,hrx⟩:∃rx,regionalB x=rx:=⟨_,rfl⟩
   obtain⟨ry,hry⟩:∃ry,regionalB y=ry:=⟨_,rfl⟩
   rw [hrx,hry] at hp
   have HRX:=lh hrx
   have HRY:=lh hry
   clear hwv hrx hry
   have eq:(rx=true∧ry=true)=((rx&&ry)=true):=by simp
   simp only [eq] at hp
   have HP3:=lh hp
   clear hp eq
   go_upto_region 28 with (first | (go_at_call 107;refine (HK.out _).mono ?_;rintro e w' ⟨rfl,hb'⟩;replace HB:=HB.trans (hb'.mono HB.size);replace c1:=cell_bl hb' (cell_lt c1) c1;replace c4:=cell_bl hb' (cell_lt c4) c4) | (go_at_call 149;refine (HW.out _).mono ?_;rintro e w' ⟨rfl,hb'⟩;replace HB:=HB.trans (hb'.mono HB.size);replace c1:=cell_bl hb' (cell_lt c1) c1;replace c4:=cell_bl hb' (cell_lt c4) c4))
   go_cut [99] (fun v wx=>v=.bool (rx&&ry)∧Below w.heap.size w wx)
   case first =>
    clear HP3
    have hrx:=HRX.out
    have hry:=HRY.out
    cases rx <;> cases ry
    all_goals (go_wp2_with (first | (go_at_call 174;refine (flag_any _ _).mono ?_;rintro e w' ⟨rfl,hw'⟩;subst hw')))
    all_goals go_meet
    all_goals exact⟨by first | rfl | simp,HB⟩
   case rest =>
    obtain⟨rfl,HB⟩:=hcut
    have hp:=HP3.out
    generalize (rx&&ry)=q at hp ⊢
    clear HP3 HRX HRY
    cases q with
    | true =>
      rw [if_pos (.inl rfl)] at hp
      go_wp2_with (fail)
      go_ret2
      rw [←hp]
      exact⟨rfl,HB⟩
    | false =>
      have HP3:=lh hp
      clear hp
      go_upto_region 29 with (fail)
      go_cut [99] (fun v wx=>v=.bool (decide (kd=7)&&decide (wv=1)&&decide (y=65039))∧Below w.heap.size w wx)
      case first =>
       clear HP3
       by_cases k7:kd=7
       ·subst k7
        by_cases w1:wv=1
        ·subst w1
         by_cases y6:y=65039
         ·subst y6
          go_wp2_with (first | (go_at_call 107;refine (HK.out _).mono ?_;rintro e w' ⟨rfl,hb'⟩;replace HB:=HB.trans (hb'.mono HB.size)))
          go_meet
          exact⟨by first | rfl | simp,HB⟩
         ·have z6:(y==65039)=false:=by simpa using y6
          go_wp2_with (first | (go_at_call 107;refine (HK.out _).mono ?_;rintro e w' ⟨rfl,hb'⟩;replace HB:=HB.trans (hb'.mono HB.size)))
          go_meet
          exact⟨by simp [y6],HB⟩
        ·have z1:(wv==1)=false:=by simpa using w1
         go_wp2_with (first | (go_at_call 107;refine (HK.out _).mono ?_;rintro e w' ⟨rfl,hb'⟩;replace HB:=HB.trans (hb'.mono HB.size)))
         go_meet
         exact⟨by simp [w1],HB⟩
       ·have z7:(kd==7)=false:=by simpa using k7
        go_wp2_with (first | (go_at_call 107;refine (HK.out _).mono ?_;rintro e w' ⟨rfl,hb'⟩;replace HB:=HB.trans (hb'.mono HB.size)))
        go_meet
        exact⟨by simp [k7],HB⟩
      case rest =>
       obtain⟨rfl,HB⟩:=hcut
       have hp:=HP3.out
       have eq:(kd=7∧wv=1∧y=65039)=((decide (kd=7)&&decide (wv=1)&&decide (y=65039))=true):=by simp [and_assoc]
       simp only [eq] at hp
       generalize (decide (kd=7)&&decide (wv=1)&&decide (y=65039))=q at hp ⊢
       clear HP3 eq
       cases q with
       | true =>
         rw [if_pos (.inr rfl)] at hp
         go_wp2_with (fail)
         go_ret2
         rw [←hp]
         exact⟨rfl,HB⟩
       | false =>
         rw [if_neg (by simp)] at hp
         by_cases w0:wv=0
         ·subst w0
          rw [if_pos rfl] at hp
          go_wp2_with (fail)
          go_ret2
          rw [←hp]
          exact⟨rfl,HB⟩
         ·have z0:(wv==0)=false:=by simpa using w0
          rw [if_neg w0] at hp
          go_wp2_with (fail)
          go_ret2
          rw [←hp]
          exact⟨rfl,HB⟩
end
section
open Go.Lib in
set_option maxRecDepth 100000 in
set_option maxHeartbeats 4000000 in
theorem decodeN_cut (n k b0 b1 b2 b3 c1 c2 c3:Nat) (hk:1≤k) (hkn:k≤n) (h1:1<k→c1=b1) (h2:2<k→c2=b2) (h3:3<k→c3=b3) :
 decodeN k b0 c1 c2 c3=if (decodeN n b0 b1 b2 b3).2≤k then decodeN n b0 b1 b2 b3 else (65533,1):=by
 by_cases e1:1<k
 ·obtain rfl:=h1 e1
  by_cases e2:2<k
  ·obtain rfl:=h2 e2
   by_cases e3:3<k
   ·obtain rfl:=h3 e3
    have:∀m:Nat,m ≥ 4→decodeN m b0 c1 c2 c3=decodeN 4 b0 c1 c2 c3:=fun m hm=>by
     unfold decodeN
     simp only [show (1<m)=True from by simp;omega,show (2<m)=True from by simp;omega,show (3<m)=True from by simp;omega]
     simp
    rw [this k (by omega),this n (by omega),if_pos]
    unfold decodeN
    repeat' split
    all_goals (simp only;try omega)
   ·obtain rfl:k=3:=by omega
    unfold decodeN
    repeat' split
    all_goals first | rfl | (exfalso;simp_all;done) | (exfalso;simp_all;omega)
  ·obtain rfl:k=2:=by omega
   unfold decodeN
   repeat' split
   all_goals first | rfl | (exfalso;simp_all;done) | (exfalso;simp_all;omega)
 ·obtain rfl:k=1:=by omega
  unfold decodeN
  repeat' split
  all_goals first | rfl | (exfalso;simp_all;done) | (exfalso;simp_all;omega)
theorem cut_get (t:ByteArray) (k j:Nat) (h:j<k) (hk:k≤t.size):(t.extract 0 k).get! j=t.get! j:=by
 have e1:j<(t.extract 0 k).size:=by simp [ByteArray.size_extract];omega
 show (t.extract 0 k).data[j]! = t.data[j]!
 rw [getElem!_pos (t.extract 0 k).data j e1,getElem!_pos t.data j (show j<t.size by omega)]
 simp [ByteArray.data_extract]
theorem cut_dec (t:ByteArray) (k:Nat) (h0:0<k) (hk:k≤t.size):Lib.decodeGo (t.extract 0 k)=if decN t≤k then Lib.decodeGo t else (65533,1):=by
 have hz:(t.extract 0 k).size=k:=by simp [ByteArray.size_extract];omega
 have h1:Lib.decodeGo (t.extract 0 k)=Utf8.decode (t.extract 0 k) 0:=by unfold Lib.decodeGo;rw [if_neg (by omega)]
 have h2:Lib.decodeGo t=Utf8.decode t 0:=by unfold Lib.decodeGo;rw [if_neg (by omega)]
 unfold decN
 rw [h1,h2,Lib.decode_at,Lib.decode_at t,hz,cut_get t k 0 h0 hk]
 exact decodeN_cut _ _ _ _ _ _ _ _ _ h0 (by omega) (fun h=>by rw [cut_get t k _ h hk]) (fun h=>by rw [cut_get t k _ h hk]) (fun h=>by rw [cut_get t k _ h hk])
theorem ext_ext (t:ByteArray) (a b c d:Nat):(t.extract a b).extract c d=t.extract (a+c) (min (a+d) b):=by
 apply ByteArray.ext
 simp [ByteArray.data_extract,Array.extract_extract]
theorem more_cut (x:Int) (t:ByteArray) (k:Nat) (hk:k≤t.size):∀(f n:Nat) (z:Int) (a:Nat),a≤k→moreF x t f n z a≤k→moreF x (t.extract 0 k) f n z a=moreF x t f n z a
 | 0,_,_,_,_,_=>rfl
 | f+1,n,z,a,ha,h=>by
   have hz:(t.extract 0 k).size=k:=by simp [ByteArray.size_extract];omega
   obtain⟨u,hu⟩:∃u,t.extract a t.size=u:=⟨_,rfl⟩
   have huz:u.size=t.size-a:=by rw [←hu];exact ext_size t a (by omega)
   have hv:(t.extract 0 k).extract a k=u.extract 0 (k-a):=by
    rw [←hu,ext_ext,ext_ext]
    congr 1 <;> omega
   rw [moreF,hz,hv]
   rw [moreF,hu] at h ⊢
   by_cases hak:a=k
   ·rw [if_pos (.inl hak)]
    subst hak
    have hup:=decN_pos u
    split
    ·rfl
    ·rename_i hn
     rw [if_neg hn] at h
     split
     ·rename_i hg
      rw [if_pos hg] at h
      have:=moreF_bd x t f (n+1) (decR u) (a+decN u) (by have:=decN_le u;omega)
      by_cases e:a=t.size
      ·exact absurd (.inl e) hn
      ·have:=hup (by omega);omega
     ·rfl
   ·have hcd:=cut_dec u (k-a) (by omega) (by omega)
    by_cases hle:decN u≤k-a
    ·rw [if_pos hle] at hcd
     have e1:decR (u.extract 0 (k-a))=decR u:=by unfold decR;rw [hcd]
     have e2:decN (u.extract 0 (k-a))=decN u:=by unfold decN;rw [hcd]
     rw [e1,e2]
     by_cases hb:decR u=65533∧decN u=1
     ·rw [if_pos (.inr hb),if_pos (.inr hb)]
     ·have hn:¬ (a=t.size∨(decR u=65533∧decN u=1)):=by rintro (e | e);omega;exact hb e
      rw [if_neg hn] at h ⊢
      rw [if_neg (by rintro (e | e);exact hak e;exact hb e)]
      by_cases hg:goesOn x z (decR u) n=true
      ·rw [if_pos hg] at h ⊢
       rw [if_pos hg]
       exact more_cut x t k hk f (n+1) _ _ (by omega) h
      ·rw [if_neg hg,if_neg hg]
    ·rw [if_neg hle] at hcd
     have e1:decR (u.extract 0 (k-a))=65533:=by unfold decR;rw [hcd];rfl
     have e2:decN (u.extract 0 (k-a))=1:=by unfold decN;rw [hcd]
     rw [if_pos (.inr ⟨e1,e2⟩)]
     split
     ·rfl
     ·rename_i hn
      rw [if_neg hn] at h
      split
      ·rename_i hg
       rw [if_pos hg] at h
       have:=moreF_bd x t f (n+1) (decR u) (a+decN u) (by have:=decN_le u;omega)
       omega
      ·rfl
set_option maxRecDepth 100000 in
theorem decR_13 (t:ByteArray) (h:decR t=13):decN t=1:=by
 unfold decR Lib.decodeGo at h
 unfold decN Lib.decodeGo
 split at h
 ·simp at h
 ·rename_i hn
  rw [if_neg hn]
  rw [Lib.decode_at] at h ⊢
  unfold Lib.decodeN at h ⊢
  repeat' split at h
  all_goals first | (simp only at h;omega) | simp_all
theorem next_cut (t:ByteArray) (k:Nat) (hk:k≤t.size) (h:nextI t≤k):nextI (t.extract 0 k)=nextI t:=by
 have hz:(t.extract 0 k).size=k:=by simp [ByteArray.size_extract];omega
 by_cases h0:t.size=0
 ·obtain rfl:k=0:=by omega
  unfold nextI
  rw [if_pos h0,if_pos hz]
 ·have hp:=nextI_bd t (by omega)
  have hcd:=cut_dec t k (by omega) hk
  have hnn:decN t≤nextI t:=by
   unfold nextI
   rw [if_neg h0]
   split
   ·split
    ·rename_i e;have:=decR_13 t e.1;omega
    ·omega
   ·exact (moreF_bd _ t 31 1 _ _ (decN_le t)).1
  rw [if_pos (by omega)] at hcd
  have e1:decR (t.extract 0 k)=decR t:=by unfold decR;rw [hcd]
  have e2:decN (t.extract 0 k)=decN t:=by unfold decN;rw [hcd]
  have hk0:¬ k=0:=by omega
  unfold nextI at h ⊢
  rw [if_neg h0] at h ⊢
  rw [hz,if_neg hk0,e1,e2]
  by_cases hs:(decR t=65533∧decN t=1)∨aloneB (decR t)=true
  ·rw [if_pos hs] at h ⊢
   rw [if_pos hs]
   by_cases h13:decR t=13∧1<t.size∧t.get! 1=10
   ·rw [if_pos h13] at h ⊢
    rw [if_pos ⟨h13.1,by omega,by rw [cut_get t k 1 (by omega) hk];exact h13.2.2⟩]
   ·rw [if_neg h13] at h ⊢
    rw [if_neg]
    rintro⟨g1,g2,g3⟩
    rw [cut_get t k 1 g2 hk] at g3
    exact h13 ⟨g1,by omega,g3⟩
  ·rw [if_neg hs] at h ⊢
   rw [if_neg hs]
   exact more_cut _ t k hk 31 1 _ _ (by have:=(moreF_bd (decR t) t 31 1 (decR t) (decN t) (decN_le t)).1;omega) h
theorem piecesF_fuel (s:ByteArray):∀(f g a:Nat),s.size≤a+f→s.size≤a+g→piecesF s f a=piecesF s g a
 | 0,g,a,h,_=>by
   cases g with
   | zero=>rfl
   | succ g=>rw [piecesF,piecesF,if_neg (by omega)]
 | f+1,g,a,h,hg=>by
   cases g with
   | zero=>rw [piecesF,piecesF,if_neg (by omega)]
   | succ g =>
     rw [piecesF,piecesF]
     split
     ·rename_i hl
      have:=nextI_bd (s.extract a s.size) (by rw [ext_size s a (by omega)];omega)
      rw [piecesF_fuel s f g _ (by omega) (by omega)]
     ·rfl
theorem piecesF_tail (s:ByteArray) (b:Nat) (hb:b≤s.size):∀(f a:Nat),piecesF s f (b+a)=(piecesF (s.extract b s.size) f a).map fun p=>(b+p.1,p.2)
 | 0,_=>rfl
 | f+1,a=>by
   have hz:=ext_size s b hb
   have e:(s.extract b s.size).extract a (s.extract b s.size).size=s.extract (b+a) s.size:=by
    rw [ext_ext,hz];congr 1;omega
   rw [piecesF,piecesF,e,hz]
   by_cases hl:b+a<s.size
   ·rw [if_pos hl,if_pos (by omega),List.map_cons]
    have hn:=nextI_bd (s.extract (b+a) s.size) (by rw [ext_size s (b+a) (by omega)];omega)
    rw [ext_size s (b+a) (by omega)] at hn
    rw [Nat.add_assoc,piecesF_tail s b hb f,ext_ext,Nat.min_eq_left (by omega)]
   ·rw [if_neg hl,if_neg (by omega),List.map_nil]
theorem pieces_tail (s:ByteArray) (b:Nat) (hb:b≤s.size):piecesF s s.size b=(piecesI (s.extract b s.size)).map fun p=>(b+p.1,p.2):=by
 have:=piecesF_tail s b hb s.size 0
 rw [Nat.add_zero] at this
 rw [this]
 unfold piecesI
 rw [piecesF_fuel (s.extract b s.size) s.size (s.extract b s.size).size 0 (by rw [ext_size s b hb];omega) (by omega)]
def Bord (s:ByteArray) (b k:Nat):Prop:=b≤s.size∧∃pre,piecesI s=pre++piecesF s s.size b∧pre.length=k
theorem Bord.zero (s:ByteArray):Bord s 0 0:=⟨Nat.zero_le _,[],rfl,rfl⟩
theorem piecesF_cons (s:ByteArray) (b:Nat) (hb:b<s.size):piecesF s s.size b=(b,s.extract b (b+nextI (s.extract b s.size)))::piecesF s s.size (b+nextI (s.extract b s.size)):=by
 obtain⟨f,hf⟩:∃f,s.size=f+1:=⟨s.size-1,by omega⟩
 have hn:=nextI_bd (s.extract b s.size) (by rw [ext_size s b (by omega)];omega)
 have h1:piecesF s (f+1) b=(b,s.extract b (b+nextI (s.extract b s.size)))::piecesF s f (b+nextI (s.extract b s.size)):=by rw [piecesF,if_pos hb]
 rw [piecesF_fuel s s.size (f+1) b (by omega) (by omega),h1,piecesF_fuel s f s.size _ (by omega) (by omega)]
theorem piecesF_nil (s:ByteArray) (f:Nat):piecesF s f s.size=[]:=by
 cases f with
 | zero=>rfl
 | succ f=>rw [piecesF,if_neg (Nat.lt_irrefl _)]
theorem Bord.next {s:ByteArray} {b k:Nat} (h:Bord s b k) (hb:b<s.size):Bord s (b+nextI (s.extract b s.size)) (k+1):=by
 obtain⟨_,pre,hp,hl⟩:=h
 have hn:=nextI_bd (s.extract b s.size) (by rw [ext_size s b (by omega)];omega)
 rw [ext_size s b (by omega)] at hn
 refine⟨by omega,pre++[(b,s.extract b (b+nextI (s.extract b s.size)))],?_,by rw [List.length_append,hl];rfl⟩
 rw [hp,piecesF_cons s b hb,List.append_assoc,List.singleton_append]
end
end Go.Proofs.YtlmjbfncopbilaaGreatDoor
