/- Part 7 (merged by a program): lemmas of no further condition than each states. -/
import Derived.Shelf.Unicode.DecodeLastEight
import Derived.Lib.RuneCount
import Derived.ScopeJumps
import Derived.WalkMore
import Derived.Test.YtlmjbfncopbilaaGreatDoorK05
import Derived.Test.YtlmjbfncopbilaaGreatDoorK06
namespace Go.Proofs.YtlmjbfncopbilaaGreatDoor
set_option linter.unusedVariables false
set_option linter.unusedSimpArgs false
section
open Go.RowKit Go.Proofs
def T8 (w:World):Prop:=Lib.Utf8Tabs (Tryz.lays197_ren.g 3) (Tryz.lays197_ren.g 4) w
theorem T8.below {B:Nat} {w w':World} (h:T8 w) (hB:B=w.heap.size) (hb:Below B w w'):T8 w':=by
 subst hB
 obtain⟨h1,h2⟩:=h
 exact⟨fun c hc=>cell_bl hb (cell_lt (h1 c hc)) (h1 c hc),fun i hi=>⟨cell_bl hb (cell_lt (h2 i hi).1) (h2 i hi).1,cell_bl hb (cell_lt (h2 i hi).2) (h2 i hi).2⟩⟩
theorem decN_le (s:ByteArray):decN s≤s.size:=Lib.decodeGo_le_size s
theorem decN_pos (s:ByteArray) (h:0<s.size):0<decN s:=by
 unfold decN Lib.decodeGo
 rw [if_neg (by omega)]
 exact Lib.decode_width_pos s 0 h
theorem sNext_any (s:ByteArray) (w:World) (hT:T8 w) :
 Calls Tryz.prog 105 #[.string s] w fun e w'=>e=.returned (.tuple #[.int .i32 (decR s),.int .i64 (decN s)])∧Below w.heap.size w w':=by
 have hD:=lh (Any.utf8_DecodeRuneInString Tryz.lays197 s w hT)
 go_enter Tryz.func105,Tryz.ntmps105
 go_wp2_with (go_at_call 147;refine hD.out.mono ?_;rintro e w1 ⟨rfl,hb⟩)
 go_ret2
 exact⟨rfl,hb⟩
theorem joiner_any (r:Int) (w:World):Calls Tryz.prog 108 #[.int .i32 r] w fun e w'=>e=.returned (.bool (joinerB r))∧w=w':=by
 go_enter Tryz.func108,Tryz.ntmps108
 go_wp2
 all_goals (go_ret;refine⟨ret_b ?_,rfl⟩;unfold joinerB;rw [Bool.eq_iff_iff];simp;try omega)
theorem regional_any (r:Int) (w:World):Calls Tryz.prog 109 #[.int .i32 r] w fun e w'=>e=.returned (.bool (regionalB r))∧w=w':=by
 go_enter Tryz.func109,Tryz.ntmps109
 go_wp2
 all_goals (go_ret;refine⟨ret_b ?_,rfl⟩;unfold regionalB;rw [Bool.eq_iff_iff];simp;try omega)
theorem alone_any (r:Int) (w:World):Calls Tryz.prog 106 #[.int .i32 r] w fun e w'=>e=.returned (.bool (aloneB r))∧Below w.heap.size w w':=by
 obtain⟨k,hk⟩:∃k,kindI r=k:=⟨_,rfl⟩
 obtain⟨V,hV⟩:∃V,aloneB r=V:=⟨_,rfl⟩
 have hK:=lh (Kind_any r w)
 rw [hk] at hK
 have hv:V=if k=0 then true else if k=1 then !joinerB r else decide (r=8232)||decide (r=8233):=by rw [←hV,←hk];rfl
 have HV:=lh hv
 rw [hV]
 clear hV hk hv
 go_enter Tryz.func106,Tryz.ntmps106
 go_upto_block 0 with (go_at_call 107;refine hK.out.mono ?_;rintro e w1 ⟨rfl,hb⟩)
 by_cases h0:k=0
 ·subst h0
  go_wp2_with (fail)
  go_ret
  exact⟨ret_b (by rw [HV.out];rfl),hb⟩
 ·have c0:(k==0)=false:=by simpa using h0
  by_cases h1:k=1
  ·subst h1
   obtain⟨j,hj⟩:∃j,joinerB r=j:=⟨_,rfl⟩
   have hJ:=lh (joiner_any r w1)
   rw [hj] at hJ HV
   clear hj
   go_wp2_with (go_at_call 108;refine hJ.out.mono ?_;rintro e w2 ⟨rfl,hw⟩;subst hw)
   go_ret
   exact⟨ret_b (by rw [HV.out];rfl),hb⟩
  ·have c1:(k==1)=false:=by simpa using h1
   have hv:=HV.out
   rw [if_neg h0,if_neg h1] at hv
   have HV2:=lh hv
   clear hv HV
   by_cases e1:r=8232
   ·subst e1
    go_wp2_with (fail)
    go_ret
    exact⟨ret_b (by rw [HV2.out];rfl),hb⟩
   ·have d1:(r==8232)=false:=by simpa using e1
    go_wp2_with (fail)
    go_ret
    exact⟨ret_b (by rw [HV2.out,Bool.eq_iff_iff];simp [e1]),hb⟩
theorem picture_any (r:Int) (w:World):Calls Tryz.prog 110 #[.int .i32 r] w fun e w'=>e=.returned (.bool (pictureB r))∧Below w.heap.size w w':=by
 obtain⟨k,hk⟩:∃k,kindI r=k:=⟨_,rfl⟩
 obtain⟨u,hu⟩:∃u,wideI r false=u:=⟨_,rfl⟩
 have hK:=lh (Kind_any r w)
 have hW:=lh (fun W=>Wide_any r false W)
 obtain⟨V,hV⟩:∃V,pictureB r=V:=⟨_,rfl⟩
 have hv:V=(decide (k=7)&&decide (u=2)):=by rw [←hV,←hk,←hu];rfl
 have HV:=lh hv
 rw [hV]
 rw [hk] at hK
 rw [hu] at hW
 clear hV hv hk hu
 go_enter Tryz.func110,Tryz.ntmps110
 by_cases h7:k=7
 ·subst h7
  go_wp2_with (first
   | (go_at_call 107;refine hK.out.mono ?_;rintro e w1 ⟨rfl,hb⟩)
   | (go_at_call 149;refine (hW.out _).mono ?_;rintro e w2 ⟨rfl,hb2⟩))
  go_ret
  exact⟨ret_b (by rw [HV.out,Bool.eq_iff_iff];simp),hb.trans (hb2.mono hb.size)⟩
 ·have c7:(k==7)=false:=by simpa using h7
  go_wp2_with (go_at_call 107;refine hK.out.mono ?_;rintro e w1 ⟨rfl,hb⟩)
  go_ret
  exact⟨ret_b (by rw [HV.out];simp [h7]),hb⟩
theorem part_any (r:Int) (w:World):Calls Tryz.prog 150 #[.int .i32 r] w fun e w'=>e=.returned (.int .i64 (partI r:Nat))∧w=w':=by
 obtain⟨V,hV⟩:∃V,partI r=V:=⟨_,rfl⟩
 have hv:V=if r<4352∨55203<r then 0 else if r≤4447 then 1 else if r≤4519 then 2 else if r≤4607 then 4 else if r<44032 then 0 else if (r-44032) % 28=0 then 8 else 16:=by rw [←hV];rfl
 have HV:=lh hv
 rw [hV]
 clear hV hv
 go_enter Tryz.func150,Tryz.ntmps150
 by_cases h0:r<4352
 ·go_wp2_with (fail)
  go_ret
  exact⟨ret_i (by rw [HV.out,if_pos (.inl h0)];rfl),rfl⟩
 by_cases h1:55203<r
 ·have g:r > 55203:=h1
  go_wp2_with (fail)
  go_ret
  exact⟨ret_i (by rw [HV.out,if_pos (.inr h1)];rfl),rfl⟩
 have g1:¬ r > 55203:=h1
 have hv:=HV.out
 rw [if_neg (by omega)] at hv
 by_cases h2:r≤4447
 ·rw [if_pos h2] at hv
  have HV2:=lh hv
  clear hv
  go_wp2_with (fail)
  go_ret
  exact⟨ret_i (by rw [HV2.out];rfl),rfl⟩
 rw [if_neg h2] at hv
 by_cases h3:r≤4519
 ·rw [if_pos h3] at hv
  have HV2:=lh hv
  clear hv
  go_wp2_with (fail)
  go_ret
  exact⟨ret_i (by rw [HV2.out];rfl),rfl⟩
 rw [if_neg h3] at hv
 by_cases h4:r≤4607
 ·rw [if_pos h4] at hv
  have HV2:=lh hv
  clear hv
  go_wp2_with (fail)
  go_ret
  exact⟨ret_i (by rw [HV2.out];rfl),rfl⟩
 rw [if_neg h4] at hv
 by_cases h5:r<44032
 ·rw [if_pos h5] at hv
  have HV2:=lh hv
  clear hv
  go_wp2_with (fail)
  go_ret
  exact⟨ret_i (by rw [HV2.out];rfl),rfl⟩
 rw [if_neg h5] at hv
 have HV2:=lh hv
 clear hv
 have ew:wrap32 (r-44032)=r-44032:=by unfold wrap32;omega
 have et:(r-44032).tmod 28=(r-44032) % 28:=Int.tmod_eq_emod_of_nonneg (by omega)
 by_cases h6:(r-44032) % 28=0
 ·go_wp2_with (fail)
  go_ret
  exact⟨ret_i (by rw [HV2.out,if_pos h6];rfl),rfl⟩
 ·go_wp2_with (fail)
  go_ret
  exact⟨ret_i (by rw [HV2.out,if_neg h6];rfl),rfl⟩
end
section
open Go.RowKit Go.Proofs
def Exit.jumps (J:Nat→Act→World→Prop) (Q:Exit→Act→World→Prop):Exit→Act→World→Prop
 | .goto l,a,w=>J l a w
 | e,a,w=>Q e a w
theorem Exit.jumps_ret (J:Nat→Act→World→Prop) (Q:Exit→Act→World→Prop) (a:Act) (w:World):Exit.jumps J Q .ret a w=Q .ret a w:=rfl
theorem wp_scope_multi {P:Program} {a:Act} {w:World} {Q:Exit→Act→World→Prop} {c:Code} (rest:Nat→Code) (J:Nat→Act→World→Prop) (μ:Nat→Act→World→Nat) (hf:∀l a w,J l a w→findLabel c l=some (rest l))
 (first:c.wp P (Exit.jumps J Q) a w)
 (pass:∀l a w,J l a w→(rest l).wp P (Exit.jumps (fun l' a' w'=>J l' a' w'∧μ l' a' w'<μ l a w) Q) a w):(Code.scope c).wp P Q a w:=by
 intro b k cs
 have hg:∀l a w,J l a w→gotoIn l (.inScope c::k)=some (.code (rest l)::.inScope c::k):=fun l a w h=>by simp [gotoIn,hf l a w h]
 have key:∀n l a w,μ l a w=n→J l a w→∃e a' w',Q e a' w'∧Arrives P (lone (b.at a (.code (rest l)::.inScope c::k)) cs w) b k cs e a' w':=by
  intro n
  induction n using Nat.strongRecOn with
  | _ n ih =>
    intro l a w hn hJ
    obtain⟨e,a₁,w₁,hq,harr⟩:=pass l a w hJ b (.inScope c::k) cs
    cases e with
    | normal=>exact⟨.normal,a₁,w₁,hq,Steps.trans harr (.one step_inScope)⟩
    | exit id=>exact⟨.exit id,a₁,w₁,hq,fun k' hk=>harr k' (by simp [exitTo,hk])⟩
    | goto l' =>
      obtain⟨hJ',hlt⟩:=hq
      obtain⟨e₂,a₂,w₂,hq₂,harr₂⟩:=ih _ (by omega) l' a₁ w₁ rfl hJ'
      exact⟨e₂,a₂,w₂,hq₂,.of_steps (harr _ (hg _ _ _ hJ')) harr₂⟩
    | ret=>exact⟨_,a₁,w₁,hq,harr⟩
    | panic ch=>exact⟨_,a₁,w₁,hq,harr⟩
    | outgrown=>exact⟨_,a₁,w₁,hq,harr⟩
 obtain⟨e,a₁,w₁,hq,harr⟩:=first b (.inScope c::k) cs
 cases e with
 | normal=>exact⟨.normal,a₁,w₁,hq,.head step_scope (Steps.trans harr (.one step_inScope))⟩
 | exit id=>exact⟨.exit id,a₁,w₁,hq,fun k' hk=>.head step_scope (harr k' (by simp [exitTo,hk]))⟩
 | goto l' =>
   obtain⟨e₂,a₂,w₂,hq₂,harr₂⟩:=key _ l' a₁ w₁ rfl hq
   exact⟨e₂,a₂,w₂,hq₂,.of_steps (.head step_scope (harr _ (hg _ _ _ hq))) harr₂⟩
 | ret=>exact⟨_,a₁,w₁,hq,.of_steps (.one step_scope) harr⟩
 | panic ch=>exact⟨_,a₁,w₁,hq,.of_steps (.one step_scope) harr⟩
 | outgrown=>exact⟨_,a₁,w₁,hq,.of_steps (.one step_scope) harr⟩
theorem wp_scope_two {P:Program} {a:Act} {w:World} {Q:Exit→Act→World→Prop} {c r1 z:Code} (l1 l0:Nat) (hne:l1≠l0) (hf1:findLabel c l1=some (.seq .skip r1)) (hf0:findLabel c l0=some (.seq .skip z))
 (J1 J0:Act→World→Prop) (μ:Act→World→Nat)
 (first:(∀a w,J1 a w→r1.wp P (Exit.jumps (fun l a w=>(l=l1∧J1 a w)∨(l=l0∧J0 a w)) Q) a w)→c.wp P (Exit.jumps (fun l a w=>(l=l1∧J1 a w)∨(l=l0∧J0 a w)) Q) a w)
 (pass:∀a w,J1 a w→r1.wp P (Exit.jumps (fun l a' w'=>(l=l1∧J1 a' w'∧μ a' w'<μ a w)∨(l=l0∧J0 a' w')) Q) a w)
 (last:∀a w,J0 a w→z.wp P (Exit.noGoto Q) a w):(Code.scope c).wp P Q a w:=by
 refine wp_scope_multi (fun l=>if l=l1 then .seq .skip r1 else .seq .skip z) (fun l a w=>(l=l1∧J1 a w)∨(l=l0∧J0 a w)) (fun l a w=>if l=l1 then μ a w+1 else 0) (fun l a w h=>?_) (first fun a w h=>?_) (fun l a w h=>?_)
 ·rcases h with ⟨rfl,_⟩ | ⟨rfl,_⟩
  ·rw [hf1,if_pos rfl]
  ·rw [hf0,if_neg (Ne.symm hne)]
 ·refine Code.wp_mono (fun e a' w' h'=>?_) (pass a w h)
  cases e with
  | goto l =>
    rcases h' with ⟨rfl,h',_⟩ | ⟨rfl,h'⟩
    ·exact .inl ⟨rfl,h'⟩
    ·exact .inr ⟨rfl,h'⟩
  | _=>exact h'
 ·rcases h with ⟨rfl,h⟩ | ⟨rfl,h⟩
  ·simp only [if_true]
   apply wp_seq
   apply wp_skip
   show Code.wp P _ _ a w
   refine Code.wp_mono (fun e a' w' h'=>?_) (pass a w h)
   cases e with
   | goto l =>
     rcases h' with ⟨rfl,h',hlt⟩ | ⟨rfl,h'⟩
     ·exact⟨.inl ⟨rfl,h'⟩,by simp only [if_true];omega⟩
     ·exact⟨.inr ⟨rfl,h'⟩,by rw [if_neg (Ne.symm hne)];omega⟩
   | _=>exact h'
  ·rw [if_neg (Ne.symm hne)]
   apply wp_seq
   apply wp_skip
   show Code.wp P _ _ a w
   refine Code.wp_mono (fun e a' w' h'=>?_) (last a w h)
   cases e with
   | goto l=>exact h'.elim
   | _=>exact h'
theorem partI_val (r:Int):partI r=0∨partI r=1∨partI r=2∨partI r=4∨partI r=8∨partI r=16:=by
 unfold partI
 repeat' split
 all_goals omega
theorem goes_any (a b:Int) (w:World):Calls Tryz.prog 111 #[.int .i32 a,.int .i32 b] w fun e w'=>e=.returned (.bool (goesB a b))∧w=w':=by
 have hPa:=lh (part_any a w)
 have hPb:=lh (part_any b w)
 have hva:=partI_val a
 have hvb:=partI_val b
 obtain⟨V,hV⟩:∃V,goesB a b=V:=⟨_,rfl⟩
 rw [hV]
 unfold goesB at hV
 generalize partI a=pa at *
 generalize partI b=pb at *
 have HV:=lh hV
 clear hV
 go_enter Tryz.func111,Tryz.ntmps111
 go_upto_block 0 with (go_at_call 150;refine hPa.out.mono ?_;rintro e w' ⟨rfl,hw⟩;subst hw)
 clear hPa
 rcases hva with rfl | rfl | rfl | rfl | rfl | rfl
 all_goals (go_wp2_with (go_at_call 150;refine hPb.out.mono ?_;rintro e w' ⟨rfl,hw⟩;subst hw))
 all_goals go_ret
 all_goals (refine⟨ret_b ?_,rfl⟩;rw [←HV.out])
 all_goals (rcases hvb with rfl | rfl | rfl | rfl | rfl | rfl <;> decide)
theorem ne_isEmpty (s:ByteArray) (h:¬ s.size=0):s.toList.isEmpty=false:=by
 rw [Lib.toList_data,List.isEmpty_eq_false_iff]
 intro h'
 apply h
 rw [Lib.size_eq,h']
 rfl
def NextF1 (s:ByteArray) (X z:Int) (n at':Nat) (u:Nat→Value):Act:={ tmps:=#[.string s,u 1,u 2,.int .i32 X,.int .i32 z,u 5,.int .i64 n,.int .i64 at',u 8,u 9,u 10,u 11,u 12,u 13,u 14,u 15,u 16,u 17,u 18,u 19,u 20,u 21,u 22,u 23,u 24,u 25,u 26,u 27,u 28,u 29,u 30,u 31,u 32,u 33,u 34,u 35,u 36,u 37,u 38,u 39,u 40,u 41,u 42,u 43,u 44,u 45,u 46,u 47,u 48,u 49,u 50,u 51,u 52,u 53,u 54,u 55,u 56,u 57,u 58,u 59,u 60,u 61,u 62,u 63,u 64,u 65,u 66,u 67,u 68,u 69,u 70,u 71,u 72,u 73,u 74,u 75,u 76,u 77,u 78,u 79,u 80,u 81,u 82,u 83,u 84,u 85,u 86,u 87,u 88,u 89,u 90,u 91,u 92,u 93,u 94,u 95,u 96,u 97,u 98,u 99,u 100,u 101,u 102],defers:=[] }
def NextF0 (s:ByteArray) (X:Int) (K:Nat) (u:Nat→Value):Act:={ tmps:=#[.string s,u 1,u 2,.int .i32 X,u 4,u 5,u 6,.int .i64 K,u 8,u 9,u 10,u 11,u 12,u 13,u 14,u 15,u 16,u 17,u 18,u 19,u 20,u 21,u 22,u 23,u 24,u 25,u 26,u 27,u 28,u 29,u 30,u 31,u 32,u 33,u 34,u 35,u 36,u 37,u 38,u 39,u 40,u 41,u 42,u 43,u 44,u 45,u 46,u 47,u 48,u 49,u 50,u 51,u 52,u 53,u 54,u 55,u 56,u 57,u 58,u 59,u 60,u 61,u 62,u 63,u 64,u 65,u 66,u 67,u 68,u 69,u 70,u 71,u 72,u 73,u 74,u 75,u 76,u 77,u 78,u 79,u 80,u 81,u 82,u 83,u 84,u 85,u 86,u 87,u 88,u 89,u 90,u 91,u 92,u 93,u 94,u 95,u 96,u 97,u 98,u 99,u 100,u 101,u 102],defers:=[] }
theorem NextF1.mk {s:ByteArray} {X z:Int} {n at':Nat} (a:Act) (h:a=NextF1 s X z n at' (fun i=>a.tmps.getD i undef)):∃u,a=NextF1 s X z n at' u:=⟨_,h⟩
theorem NextF0.mk {s:ByteArray} {X:Int} {K:Nat} (a:Act) (h:a=NextF0 s X K (fun i=>a.tmps.getD i undef)):∃u,a=NextF0 s X K u:=⟨_,h⟩
def NextJ1 (s:ByteArray) (X:Int) (R:Nat) (w:World) (a':Act) (w':World):Prop :=
 ∃(n f at':Nat) (z:Int),n+f=32∧1≤n∧0<at'∧at'≤s.size∧moreF X s f n z at'=R∧Below w.heap.size w w'∧∃u,a'=NextF1 s X z n at' u
def NextJ0 (s:ByteArray) (X:Int) (K R:Nat) (w:World) (a':Act) (w':World):Prop :=
 0<s.size∧(if X=13∧1<s.size∧s.get! 1=10 then 2 else K)=R∧Below w.heap.size w w'∧∃u,a'=NextF0 s X K u
theorem ext_size (s:ByteArray) (a:Nat) (h:a≤s.size):(s.extract a s.size).size=s.size-a:=by simp [ByteArray.size_extract]
set_option maxRecDepth 100000 in
set_option maxHeartbeats 4000000 in
theorem Next_any (s:ByteArray) (w:World) (hT:T8 w) (hs:s.size≤9223372036854775807) :
 Calls Tryz.prog 65 #[.string s] w fun e w'=>e=.returned (.int .i64 (nextI s:Nat))∧Below w.heap.size w w':=by
 obtain⟨R,hR⟩:∃R,nextI s=R:=⟨_,rfl⟩
 rw [hR]
 have hN:=lh (sNext_any s w hT)
 obtain⟨X,hX⟩:∃X,decR s=X:=⟨_,rfl⟩
 obtain⟨K,hK⟩:∃K,decN s=K:=⟨_,rfl⟩
 have hKs:=decN_le s
 have hKp:=decN_pos s
 rw [hX,hK] at hN
 unfold nextI at hR
 rw [hX,hK] at hR
 rw [hK] at hKs hKp
 have HR:=lh hR
 have HT:=lh (fun W (h:Below w.heap.size w W)=>hT.below rfl h)
 clear hR hX hK hT
 go_enter Tryz.func65,Tryz.ntmps65
 go_wp2_with (fail)
 refine wp_scope_two 1 0 (by decide) rfl rfl (NextJ1 s X R w) (NextJ0 s X K R w) (fun a' _=>32-(intOf (a'.tmps.getD 6 undef)).toNat) ?_ ?_ ?_
 ·intro hp
  by_cases h0:s.size=0
  ·have hr:=HR.out
   rw [if_pos h0] at hr
   have he:s=⟨#[]⟩:=by
    apply ByteArray.ext
    exact Array.eq_empty_of_size_eq_zero h0
   have HR0:=lh hr
   clear hr HR hp HT
   subst he
   go_wp2_with (go_at_call 105;refine hN.out.mono ?_;rintro e w1 ⟨rfl,hb⟩)
   rw [Exit.jumps_ret]
   go_ret
   exact⟨ret_i (by rw [←HR0.out];rfl),hb⟩
  ·have hr:=HR.out
   rw [if_neg h0] at hr
   have HRN:=lh hr
   obtain⟨al,hal⟩:∃al,aloneB X=al:=⟨_,rfl⟩
   have hA:=lh (fun W=>alone_any X W)
   rw [hal] at hA HRN
   clear hr HR hal HT
   have kp:0<K:=hKp (by omega)
   have hem:=ne_isEmpty s h0
   by_cases e1:X=65533
   ·by_cases e2:K=1
    ·subst e1 e2
     have hr:=HRN.out
     rw [if_pos (.inl ⟨rfl,rfl⟩)] at hr
     have HR0:=lh hr
     clear hr HRN hA hp
     go_wp2_with (go_at_call 105;refine hN.out.mono ?_;rintro e w1 ⟨rfl,hb⟩)
     go_step3
     exact .inr ⟨rfl,by omega,HR0.out,hb,NextF0.mk _ rfl⟩
    ·subst e1
     have c2:¬ ((K:Int)=1):=by omega
     cases al with
     | true =>
       have hr:=HRN.out
       rw [if_pos (.inr rfl)] at hr
       have HR0:=lh hr
       clear hr HRN hp
       go_wp2_with (first
        | (go_at_call 105;refine hN.out.mono ?_;rintro e w1 ⟨rfl,hb⟩)
        | (go_at_call 106;refine (hA.out _).mono ?_;rintro e w2 ⟨rfl,hb2⟩))
       go_step3
       exact .inr ⟨rfl,by omega,HR0.out,hb.trans (hb2.mono hb.size),NextF0.mk _ rfl⟩
     | false =>
       have hr:=HRN.out
       rw [if_neg (by rintro (⟨_,h⟩ | h);exact e2 h;cases h)] at hr
       have HR0:=lh hr
       clear hr HRN
       go_wp2_with (first
        | (go_at_call 105;refine hN.out.mono ?_;rintro e w1 ⟨rfl,hb⟩)
        | (go_at_call 106;refine (hA.out _).mono ?_;rintro e w2 ⟨rfl,hb2⟩))
       go_step3
       rename_i hKK
       exact hKK _ _ (hp _ _ ⟨1,31,K,65533,rfl,by omega,kp,hKs,HR0.out,hb.trans (hb2.mono hb.size),NextF1.mk _ rfl⟩)
   ·cases al with
    | true =>
      have hr:=HRN.out
      rw [if_pos (.inr rfl)] at hr
      have HR0:=lh hr
      have c1:(X==65533)=false:=by simpa using e1
      clear hr HRN hp
      go_wp2_with (first
       | (go_at_call 105;refine hN.out.mono ?_;rintro e w1 ⟨rfl,hb⟩)
       | (go_at_call 106;refine (hA.out _).mono ?_;rintro e w2 ⟨rfl,hb2⟩))
      go_step3
      exact .inr ⟨rfl,by omega,HR0.out,hb.trans (hb2.mono hb.size),NextF0.mk _ rfl⟩
    | false =>
      have hr:=HRN.out
      rw [if_neg (by rintro (⟨h,_⟩ | h);exact e1 h;cases h)] at hr
      have HR0:=lh hr
      have c1:(X==65533)=false:=by simpa using e1
      clear hr HRN
      go_wp2_with (first
       | (go_at_call 105;refine hN.out.mono ?_;rintro e w1 ⟨rfl,hb⟩)
       | (go_at_call 106;refine (hA.out _).mono ?_;rintro e w2 ⟨rfl,hb2⟩))
      go_step3
      rename_i hKK
      exact hKK _ _ (hp _ _ ⟨1,31,K,X,rfl,by omega,kp,hKs,HR0.out,hb.trans (hb2.mono hb.size),NextF1.mk _ rfl⟩)
 ·rintro a' wr ⟨n,f,at',z,hnf,hn1,hat0,hats,hm,hbel,u,rfl⟩
  unfold NextF1
  have HM:=lh hm
  clear hm hN HR hKs hKp
  cases f with
  | zero =>
    obtain rfl:n=32:=by omega
    go_wp2_with (fail)
    rw [Exit.jumps_ret]
    go_ret
    exact⟨ret_i (by rw [←HM.out];rfl),hbel⟩
  | succ f =>
    have c32:((n:Int)==32)=false:=by rw [beq_eq_false_iff_ne];omega
    obtain⟨t,ht⟩:∃t,s.extract at' s.size=t:=⟨_,rfl⟩
    have htz:t.size=s.size-at':=by rw [←ht];exact ext_size s at' hats
    obtain⟨Y,hY⟩:∃Y,decR t=Y:=⟨_,rfl⟩
    obtain⟨k,hk⟩:∃k,decN t=k:=⟨_,rfl⟩
    have hkt:=decN_le t
    have hkpos:=decN_pos t
    rw [hk] at hkt hkpos
    have hN:=lh (sNext_any t wr (HT.out wr hbel))
    rw [hY,hk] at hN
    have hm:=HM.out
    rw [moreF,ht,hY,hk] at hm
    have HTE:=lh ht
    have gt0:(0:Int)≤(at':Int):=by omega
    have gt1:(at':Int)≤(s.size:Int):=by omega
    obtain⟨kd,hkd⟩:∃kd,kindI Y=kd:=⟨_,rfl⟩
    obtain⟨jy,hjy⟩:∃jy,joinerB Y=jy:=⟨_,rfl⟩
    obtain⟨rx,hrx⟩:∃rx,regionalB X=rx:=⟨_,rfl⟩
    obtain⟨ry,hry⟩:∃ry,regionalB Y=ry:=⟨_,rfl⟩
    obtain⟨px,hpx⟩:∃px,pictureB X=px:=⟨_,rfl⟩
    obtain⟨py,hpy⟩:∃py,pictureB Y=py:=⟨_,rfl⟩
    obtain⟨g,hg⟩:∃g,goesB z Y=g:=⟨_,rfl⟩
    have hK:=lh (fun W=>Kind_any Y W)
    have hJ:=lh (fun W=>joiner_any Y W)
    have hG:=lh (fun W=>goes_any z Y W)
    have hgo:goesOn X z Y n=(decide (kd=2)||jy||(decide (n=1)&&rx&&ry)||(decide (z=8205)&&px&&py)||g):=by
     unfold goesOn;rw [hkd,hjy,hrx,hry,hpx,hpy,hg]
    rw [hgo] at hm
    rw [hkd] at hK
    rw [hjy] at hJ
    rw [hg] at hG
    have HM3:=lh hm
    have HRX:=lh hrx
    have HRY:=lh hry
    have HPX:=lh hpx
    have HPY:=lh hpy
    clear hm HM hY hk ht hkd hjy hrx hry hpx hpy hg hgo
    go_upto_region 12 with (go_at_call 105;rw [HTE.out];refine hN.out.mono ?_;rintro e w1 ⟨rfl,hb⟩)
    have hb1:=hbel.trans (hb.mono hbel.size)
    clear hb hN HTE HT
    by_cases ea:at'=s.size
    ·subst ea
     have hm:=HM3.out
     rw [if_pos (.inl rfl)] at hm
     have HMR:=lh hm
     clear hm HM3 hK hJ hG HRX HRY HPX HPY
     go_wp2_with (fail)
     rw [Exit.jumps_ret]
     go_ret
     exact⟨ret_i (by rw [HMR.out]),hb1⟩
    have ca:((at':Int)==(s.size:Int))=false:=by rw [beq_eq_false_iff_ne];omega
    by_cases ey:Y=65533∧k=1
    ·obtain⟨ey,ek⟩:=ey
     subst ey ek
     have hm:=HM3.out
     rw [if_pos (.inr ⟨rfl,rfl⟩)] at hm
     have HMR:=lh hm
     clear hm HM3 hK hJ hG HRX HRY HPX HPY
     go_wp2_with (fail)
     rw [Exit.jumps_ret]
     go_ret
     exact⟨ret_i (by rw [HMR.out]),hb1⟩
    have hm:=HM3.out
    rw [if_neg (fun h=>h.elim ea ey)] at hm
    have HM4:=lh hm
    clear hm HM3
    have hkp:0<k:=by
     have:=hkpos (by omega)
     omega
    have ew1:wrap64 ((n:Int)+1)=(n:Int)+1:=by unfold wrap64;omega
    have ew2:wrap64 ((at':Int)+(k:Int))=(at':Int)+(k:Int):=by unfold wrap64;omega
    go_cut [38] (fun v wx=>v=.bool false∧wx=w1)
    case first =>
     by_cases e1:Y=65533
     ·subst e1
      have c2:((k:Int)==1)=false:=by
       rw [beq_eq_false_iff_ne]
       intro h
       exact ey ⟨rfl,by omega⟩
      go_wp2_with (fail)
      go_meet
      exact⟨by first | rfl | simp,rfl⟩
     ·have c1:(Y==65533)=false:=by simpa using e1
      go_wp2_with (fail)
      go_meet
      exact⟨by first | rfl | simp,rfl⟩
    case rest =>
     obtain⟨rfl,hwx⟩:=hcut
     have hwx':=hwx.symm
     clear hwx
     subst hwx'
     by_cases ek:kd=2
     ·subst ek
      go_wp2_with (go_at_call 107;refine (hK.out _).mono ?_;rintro e w2 ⟨rfl,hb2⟩)
      have hb12:=hb1.trans (hb2.mono hb1.size)
      go_step3
      exact .inl ⟨rfl,⟨n+1,f,at'+k,Y,by omega,by omega,by omega,by omega,(if_pos (by simp)).symm.trans HM4.out,hb12,NextF1.mk _ rfl⟩,by simp [intOf];omega⟩
     have ck:(kd==2)=false:=by simpa using ek
     cases jy with
     | true =>
       go_wp2_with (first
        | (go_at_call 107;refine (hK.out _).mono ?_;rintro e w2 ⟨rfl,hb2⟩)
        | (go_at_call 108;refine (hJ.out _).mono ?_;rintro e w' ⟨rfl,hw'⟩;subst hw'))
       have hb12:=hb1.trans (hb2.mono hb1.size)
       go_step3
       exact .inl ⟨rfl,⟨n+1,f,at'+k,Y,by omega,by omega,by omega,by omega,(if_pos (by simp)).symm.trans HM4.out,hb12,NextF1.mk _ rfl⟩,by simp [intOf];omega⟩
     | false =>
       go_upto_region 16 with (first
        | (go_at_call 107;refine (hK.out _).mono ?_;rintro e w2 ⟨rfl,hb2⟩)
        | (go_at_call 108;refine (hJ.out _).mono ?_;rintro e w' ⟨rfl,hw'⟩;subst hw'))
       have hb12:=hb1.trans (hb2.mono hb1.size)
       clear hb2
       go_cut [58] (fun v wx=>v=.bool (decide (n=1)&&rx&&ry)∧wx=w2)
       case first =>
        by_cases h1:n=1
        ·have d1:((n:Int)==1)=true:=by rw [h1];rfl
         have H1:=lh h1
         clear h1
         have hrx:=HRX.out
         have hry:=HRY.out
         cases rx <;> cases ry
         all_goals (go_wp2_with (go_at_call 109;refine (regional_any _ _).mono ?_;rintro e w' ⟨rfl,hw'⟩;subst hw'))
         all_goals go_meet
         all_goals exact⟨by simp [H1.out],rfl⟩
        ·have d1:((n:Int)==1)=false:=by rw [beq_eq_false_iff_ne];omega
         go_wp2_with (fail)
         go_meet
         exact⟨by simp [h1],rfl⟩
       case rest =>
        obtain⟨rfl,hwx⟩:=hcut
        have hwx':=hwx.symm
        clear hwx
        subst hwx'
        obtain⟨q58,h58⟩:∃q,(decide (n=1)&&rx&&ry)=q:=⟨_,rfl⟩
        rw [h58] at HM4 ⊢
        clear h58
        cases q58 with
        | true =>
          go_wp2_with (fail)
          go_step3
          exact .inl ⟨rfl,⟨n+1,f,at'+k,Y,by omega,by omega,by omega,by omega,(if_pos (by simp)).symm.trans HM4.out,hb12,NextF1.mk _ rfl⟩,by simp [intOf];omega⟩
        | false =>
          go_upto_region 17 with (fail)
          go_cut [69] (fun v wx=>v=.bool (decide (z=8205)&&px&&py)∧Below w.heap.size w wx)
          case first =>
           by_cases h1:z=8205
           ·subst h1
            have hpx:=HPX.out
            have hpy:=HPY.out
            cases px with
            | true =>
              go_wp2_with (first
               | (go_at_call 110;have hprev:=hb3;refine (picture_any _ _).mono ?_;rintro e w4 ⟨rfl,hb4⟩)
               | (go_at_call 110;refine (picture_any _ _).mono ?_;rintro e w3 ⟨rfl,hb3⟩))
              go_meet
              have hb13:=hb12.trans (hb3.mono hb12.size)
              exact⟨by simp [hpy],hb13.trans (hb4.mono hb13.size)⟩
            | false =>
              go_wp2_with (go_at_call 110;refine (picture_any _ _).mono ?_;rintro e w3 ⟨rfl,hb3⟩)
              go_meet
              exact⟨by simp,hb12.trans (hb3.mono hb12.size)⟩
           ·have d1:(z==8205)=false:=by simpa using h1
            go_wp2_with (fail)
            go_meet
            exact⟨by simp [h1],hb12⟩
          case rest =>
           obtain⟨rfl,hb13⟩:=hcut
           obtain⟨q69,h69⟩:∃q,(decide (z=8205)&&px&&py)=q:=⟨_,rfl⟩
           rw [h69] at HM4 ⊢
           clear h69
           cases q69 with
           | true =>
             go_wp2_with (fail)
             go_step3
             exact .inl ⟨rfl,⟨n+1,f,at'+k,Y,by omega,by omega,by omega,by omega,(if_pos (by simp)).symm.trans HM4.out,hb13,NextF1.mk _ rfl⟩,by simp [intOf];omega⟩
           | false =>
             cases g with
             | true =>
               go_wp2_with (go_at_call 111;refine (hG.out _).mono ?_;rintro e w' ⟨rfl,hw'⟩;subst hw')
               go_step3
               exact .inl ⟨rfl,⟨n+1,f,at'+k,Y,by omega,by omega,by omega,by omega,(if_pos (by simp)).symm.trans HM4.out,hb13,NextF1.mk _ rfl⟩,by simp [intOf];omega⟩
             | false =>
               have hm:=HM4.out
               rw [if_neg (by simp [ek])] at hm
               have HM5:=lh hm
               clear hm HM4
               go_wp2_with (go_at_call 111;refine (hG.out _).mono ?_;rintro e w' ⟨rfl,hw'⟩;subst hw')
               rw [Exit.jumps_ret]
               go_ret
               exact⟨ret_i (by rw [HM5.out]),hb13⟩
 ·rintro a' wr ⟨hpos,hr,hbel,u,rfl⟩
  unfold NextF0
  have HR0:=lh hr
  clear hr hN HR HT
  by_cases e1:X=13
  ·by_cases e2:1<s.size
   ·have g2:(s.size:Int) > 1:=by omega
    have hg:s.get! 1=s[1]'e2:=Utf8W.get!_of_lt s 1 e2
    by_cases e3:s.get! 1=10
    ·subst e1
     have HG:=lh hg
     have HE:=lh e3
     clear hg e3
     have g3:(((s[1]'e2).toNat:Int)==10)=true:=by rw [←HG.out,HE.out];rfl
     go_wp2_with (fail)
     go_ret
     exact⟨ret_i (by rw [←HR0.out,if_pos ⟨by first | rfl | trivial,e2,HE.out⟩];rfl),hbel⟩
    ·subst e1
     have HG:=lh hg
     have HE:=lh e3
     clear hg e3
     have g3:(((s[1]'e2).toNat:Int)==10)=false:=by
      rw [beq_eq_false_iff_ne]
      intro h
      apply HE.out
      rw [HG.out]
      exact UInt8.toNat_inj.1 (by show _=10;omega)
     go_wp2_with (fail)
     go_ret
     exact⟨ret_i (by rw [←HR0.out,if_neg (fun h=>HE.out h.2.2)]),hbel⟩
   ·subst e1
    have g2:¬ (s.size:Int) > 1:=by omega
    go_wp2_with (fail)
    go_ret
    exact⟨ret_i (by rw [←HR0.out,if_neg (fun h=>e2 h.2.1)]),hbel⟩
  ·have c1:(X==13)=false:=by simpa using e1
   go_wp2_with (fail)
   rw [Exit.noGoto_ret]
   go_ret
   exact⟨ret_i (by rw [←HR0.out,if_neg (fun h=>e1 h.1)]),hbel⟩
end
end Go.Proofs.YtlmjbfncopbilaaGreatDoor
