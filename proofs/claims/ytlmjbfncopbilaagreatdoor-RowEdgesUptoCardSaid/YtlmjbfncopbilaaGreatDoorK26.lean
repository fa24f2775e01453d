/- Part 26 (merged by a program): lemmas of no further condition than each states. -/
import Derived.Test.YtlmjbfncopbilaaGreatDoorK25
namespace Go.Proofs.YtlmjbfncopbilaaGreatDoor
set_option linter.unusedVariables false
set_option linter.unusedSimpArgs false
section
open Go.RowKit Go.Great
def joinsT:List (Int × Int):=[(0,0),(768,4),(880,0),(1155,4),(1162,0),(1425,4),(1470,0),(1471,4),(1472,0),(1473,4),(1475,0),(1476,4),(1478,0),(1479,4),(1480,0),(1552,4),(1563,0),(1570,1),(1574,2),(1575,1),(1576,2),(1577,1),(1578,2),(1583,1),(1587,2),(1595,0),(1600,3),(1601,2),(1608,1),(1610,2),(1611,4),(1632,0),(1648,4),(1649,0),(1750,4),(1757,0),(1759,4),(1765,0),(1767,4),(1769,0),(1770,4),(1774,0),(3633,4),(3634,0),(3636,4),(3643,0),(3655,4),(3663,0),(6832,4),(6912,0),(7616,4),(7680,0),(8205,3),(8206,0),(8400,4),(8448,0),(12330,4),(12334,0),(12441,4),(12443,0),(65024,4),(65040,0),(65056,4),(65072,0)]
theorem joinsT_len:joinsT.length=64:=by as_aux_lemma=>kernel_rfl
set_option maxRecDepth 1000000 in
set_option maxHeartbeats 1000000 in
theorem joins_any (r:Int) (w:World) :
 Calls Tryz.prog 221 #[.int .i32 r] w (TabPost joinsT (known r) w):=by
 refine calls_of_wp Tryz.func221 rfl ?_
 refine wp_frame0 75 (.int .i32 r) (by as_aux_lemma=>kernel_rfl) rfl (by as_aux_lemma=>kernel_rfl) fun a0 hs0 hd0 h0=>?_
 apply wp_seq_k;intro K0 hK0
 apply wp_region_lit
 refine wpList_mv rfl (some 2) rfl _ (.inr rfl) ?_
 refine wpList_mv rfl (some 3) rfl _ (.inr rfl) ?_
 apply wpList_nil
 refine hK0 _ _ ?_
 refine wp_frame0 75 (.int .i32 r) (by simp only [Act.size_put,hs0]) (by simp only [Act.defers_put',hd0]) (by rw [Act.eval_put_ne _ _ _ _ (by decide),Act.eval_put_ne _ _ _ _ (by decide),h0]) fun a1 hs1 hd1 h1=>?_
 clear hK0 K0 h0 hd0 hs0 a0
 apply wp_seq_k;intro K1 hK1
 apply wp_region_lit
 refine wpList_splitAt 64 (stOps 248 (posOf Tryz.f221) 5 joinsT) (by as_aux_lemma=>kernel_rfl) ?_
 refine wpList_sts 248 (posOf Tryz.f221) (fun _ _=>by as_aux_lemma=>kernel_rfl) joinsT 5 _ (by rw [joinsT_len,hs1];decide) fun a2 hs2 hd2 hev hlow=>?_
 refine wpList_buildArr2 rfl 320 248 64 _ joinsT rfl 5 (some 69) rfl (by as_aux_lemma=>kernel_rfl) (by as_aux_lemma=>kernel_rfl) (by as_aux_lemma=>kernel_rfl) (by as_aux_lemma=>kernel_rfl) hev ?_
 refine wpList_allocZ rfl (some 4) rfl 320 rfl w.heap.size rfl (((Tryz.prog.info? 320).bind (·.zero)).getD undef) (by as_aux_lemma=>kernel_rfl) ?_
 have hc2:(tcells joinsT).toArray.size=128:=by rw [List.size_toArray,tcells_length,joinsT_len]
 have hb:w.heap.size<(w.alloc (.cells (((Tryz.prog.info? 320).bind (·.zero)).getD undef).cells 320)).heap.size:=by simp
 refine wpList_store_row rfl 320 (.tmp 4) (.tmp 69) rfl w.heap.size (tcells joinsT).toArray
  (Act.eval_put_same _ _ _ (by simp only [Act.size_put,hs2,hs1];decide)) (by rw [Act.eval_put_ne _ _ _ _ (by decide),Act.eval_put_same _ _ _ (by simp only [hs2,hs1];decide)])
  320 _ (heap_alloc_new w _) (by rw [hc2];as_aux_lemma=>kernel_rfl) (by rw [hc2];as_aux_lemma=>kernel_rfl) (tcells_one _) ?_
 apply wpList_nil
 refine hK1 _ _ ?_
 clear hK1 K1
 have hp:((((a2.put (some 69) (.agg (tcells joinsT).toArray)).put (some 4) (.pointer (some ⟨w.heap.size,0,none⟩)))).put none undef).eval (.tmp 4)=.pointer (some ⟨w.heap.size,0,none⟩) :=
  Act.eval_put_same _ _ _ (by simp only [Act.size_put,hs2,hs1];decide)
 have hr:((((a2.put (some 69) (.agg (tcells joinsT).toArray)).put (some 4) (.pointer (some ⟨w.heap.size,0,none⟩)))).put none undef).eval (.tmp 0)=.int .i32 r:=by
  show ((a2.put (some 69) (.agg (tcells joinsT).toArray)).put (some 4) (.pointer (some ⟨w.heap.size,0,none⟩))).eval (.tmp 0)=_
  rw [Act.eval_put_ne _ _ _ _ (by decide),Act.eval_put_ne _ _ _ _ (by decide),hlow 0 (by decide),h1]
 exact tab_tail joinsT 64 75 70 4 320 248 r w _ _ _ _ _ _ _ _ _ _ joinsT_len (by decide) (by decide) (by simp only [Act.size_put,hs2,hs1]) (by simp only [Act.defers_put',hd2,hd1]) hp hr (by decide) (by decide)
  (by as_aux_lemma=>kernel_rfl) (by as_aux_lemma=>kernel_rfl) (setRow_heap _ _ _ _ _ _ (heap_alloc_new w _)) (tab_below w _ _) rfl
  rfl rfl rfl rfl rfl rfl rfl rfl (fun x=>by rw [execOp_call_go];simp) rfl rfl rfl rfl rfl rfl rfl rfl rfl rfl rfl rfl
theorem joins_val (r:Int) (w:World):Calls Tryz.prog 221 #[.int .i32 r] w fun e w'=>∃x y:Int,x=tabLook joinsT (known r)∧0≤x∧x≤127∧e=.returned (.tuple #[.int .u8 x,.int .i32 y])∧Below w.heap.size w w':=by
 refine (joins_any r w).mono fun e w1 h=>?_
 obtain⟨low,h1,h2,h3,he,hb⟩:=h
 have hs:tabSmall joinsT=true:=by as_aux_lemma=>kernel_rfl
 have hr:risesB joinsT=true:=by as_aux_lemma=>kernel_rfl
 have hbd:=tabSmall_bd hs low
 exact⟨_,_,(tabLook_of joinsT low (known r) hr h1 h2 h3).symm,hbd.1,hbd.2,he,hb⟩
def joinI (r:Int):Int:=tabLook joinsT (known r)
set_option maxHeartbeats 400000 in
theorem Join_any (r:Int) (w:World) :
 Calls Tryz.prog 200 #[.int .i32 r] w fun e w'=>e=.returned (.int .i8 (joinI r))∧Below w.heap.size w w':=by
 go_enter Tryz.func200,Tryz.ntmps200
 go_wp2_with (go_at_call 221;refine (joins_val r w).mono ?_;rintro e w1 ⟨x,y,rfl,h0,h1,rfl,hb⟩)
 go_ret
 exact⟨ret_i rfl,hb⟩
end
section
open Go.RowKit Go.Great
def firstsT:List Int:=[0xfe80,0xfe81,0xfe83,0xfe85,0xfe87,0xfe89,0xfe8d,0xfe8f,0xfe93,0xfe95,0xfe99,0xfe9d,0xfea1,0xfea5,0xfea9,0xfeab,0xfead,0xfeaf,0xfeb1,0xfeb5,0xfeb9,0xfebd,0xfec1,0xfec5,0xfec9,0xfecd,0,0,0,0,0,0,0xfed1,0xfed5,0xfed9,0xfedd,0xfee1,0xfee5,0xfee9,0xfeed,0xfeef,0xfef1]
def fstI (r:Int):Int:=if r<1569∨1610<r then 0 else firstsT.getD (r-1569).toNat 0
def shapeI (r form:Int):Int :=
 if fstI r=0 then r
 else if joinI r=2 then (if form=3 then fstI r+1 else if form=1 then fstI r+2 else if form=2 then fstI r+3 else fstI r)
 else if joinI r=1 then (if form=3∨form=2 then fstI r+1 else fstI r)
 else fstI r
def fstC:Array Value:=(firstsT.map (Value.int .u16)).toArray
theorem fsts_bd (k:Nat):0≤firstsT.getD k 0∧firstsT.getD k 0≤65265:=by
 by_cases h:k<42
 ·have:∀j:Fin 42,0≤firstsT.getD j.1 0∧firstsT.getD j.1 0≤65265:=by decide
  exact this ⟨k,h⟩
 ·rw [List.getD_eq_getElem?_getD,List.getElem?_eq_none (by show 42≤k;omega)]
  decide
theorem fst_bd (r:Int):0≤fstI r∧fstI r≤65265:=by
 unfold fstI
 split
 ·decide
 ·exact fsts_bd _
set_option maxRecDepth 100000 in
set_option maxHeartbeats 1000000 in
theorem jFirst_any (r:Int) (w:World) :
 Calls Tryz.prog 201 #[.int .i32 r] w fun e w'=>e=.returned (.int .i32 (fstI r))∧Below w.heap.size w w':=by
 go_enter Tryz.func201,Tryz.ntmps201
 go_upto_region 1 with (fail)
 apply wp_region_lit
 refine wpList_buildTo rfl 302 _ rfl (some 4) rfl fstC (by as_aux_lemma=>kernel_rfl) ?_
 refine wpList_allocZ rfl (some 3) rfl 302 rfl w.heap.size rfl (((Tryz.prog.info? 302).bind (·.zero)).getD undef) (by as_aux_lemma=>kernel_rfl) ?_
 refine wpList_store_rowTo rfl 302 (.tmp 3) (.tmp 4) rfl rfl w.heap.size fstC rfl rfl 302 _ (heap_alloc_new w _) (by as_aux_lemma=>kernel_rfl) (by as_aux_lemma=>kernel_rfl) (by as_aux_lemma=>kernel_rfl) ?_
 apply wpList_nil
 rename_i hK
 have hx:=setRow_heap _ _ _ fstC _ _ (heap_alloc_new w (.cells (((Tryz.prog.info? 302).bind (·.zero)).getD undef).cells 302))
 have hb:=tab_below w (.cells (((Tryz.prog.info? 302).bind (·.zero)).getD undef).cells 302) fstC
 simp only [Act.put]
 generalize World.setRow _ _ _=w1 at hx hb ⊢
 refine hK _ _ ?_
 clear hK
 simp only [List.setIfInBounds_toArray,List.set_cons_zero,List.set_cons_succ]
 have hs1:w.heap.size<w1.heap.size:=(Array.getElem?_eq_some_iff.1 hx).1
 obtain⟨B,hB⟩:∃B,w.heap.size=B:=⟨_,rfl⟩
 rw [hB] at hx hs1
 have hb':Below w.heap.size w w1:=hb
 rw [hB] at hb'
 have HB:=lh hb
 have HB2:=lh hb'
 have HX:=lh hx
 rw [hB]
 clear hb hb' hx
 generalize Value.agg fstC=v4
 by_cases h1:r<1569
 ·go_wp2_with (fail)
  go_ret
  exact⟨ret_i (by unfold fstI;rw [if_pos (.inl h1)]),by first | exact HB.out | exact HB2.out⟩
 by_cases h2:1610<r
 ·go_wp2_with (fail)
  go_ret
  exact⟨ret_i (by unfold fstI;rw [if_pos (.inr h2)]),by first | exact HB.out | exact HB2.out⟩
 obtain⟨k,hk⟩:∃k:Nat,r=1569+k:=⟨(r-1569).toNat,by omega⟩
 subst hk
 have hk:k<42:=by omega
 have hc:w1.cell? ⟨B,k,none⟩=some (.int .u16 (fstI (1569+k))):=by
  have e:fstC[k]? = some (.int .u16 (firstsT.getD k 0)):=by
   unfold fstC
   rw [List.getElem?_toArray,List.getElem?_map,List.getD_eq_getElem?_getD,List.getElem?_eq_getElem (show k<firstsT.length from hk)]
   rfl
  unfold fstI
  rw [if_neg (by omega),show ((1569:Int)+k-1569).toNat=k by omega]
  simp [World.cell?,HX.out,e]
 have hfb:=fst_bd (1569+k)
 obtain⟨f,hf⟩:∃f,fstI (1569+k)=f:=⟨_,rfl⟩
 rw [hf] at hc hfb
 have HFE:=lh hf
 clear hf
 have i1:IntKind.i32.wrap ((1569:Int)+k-1569)=k:=by rw [IntKind.wrap_i32];omega
 have i2:(k:Int)<42:=by omega
 go_wp2_with (fail)
 go_ret
 exact⟨ret_i (by rw [HFE.out]),by first | exact HB.out | exact HB2.out⟩
set_option maxHeartbeats 1000000 in
theorem Shape_any (r form:Int) (w:World) :
 Calls Tryz.prog 169 #[.int .i32 r,.int .i8 form] w fun e w'=>e=.returned (.int .i32 (shapeI r form))∧Below w.heap.size w w':=by
 obtain⟨V,hV⟩:∃V,shapeI r form=V:=⟨_,rfl⟩
 rw [hV]
 unfold shapeI at hV
 have hfb:=fst_bd r
 have HF:Hid (∀W:World,Calls Tryz.prog 201 #[.int .i32 r] W fun e w'=>e=.returned (.int .i32 (fstI r))∧Below W.heap.size W w'):=lh fun W=>jFirst_any r W
 have HJ:Hid (∀W:World,Calls Tryz.prog 200 #[.int .i32 r] W fun e w'=>e=.returned (.int .i8 (joinI r))∧Below W.heap.size W w'):=lh fun W=>Join_any r W
 generalize fstI r=f at hV hfb HF
 generalize joinI r=j at hV HJ
 have HV:=lh hV
 clear hV
 go_enter Tryz.func169,Tryz.ntmps169
 go_upto_region 2 with (go_at_call 201;refine (HF.out _).mono ?_;rintro e w1 ⟨rfl,hb1⟩)
 by_cases hf0:f=0
 ·subst hf0
  go_wp2_with (fail)
  go_ret
  exact⟨ret_i (by rw [←HV.out];simp),hb1⟩
 ·have hf1:(f==0)=false:=by rw [beq_eq_false_iff_ne];exact hf0
  go_upto_region 5 with (go_at_call 200;refine (HJ.out _).mono ?_;rintro e w2 ⟨rfl,hb2⟩)
  have hb3:=hb1.trans (hb2.mono hb1.size)
  have HB:=lh hb3
  have HF0:=lh hf0
  clear hb1 hb2 hb3 hf0
  have HD:V=V:=rfl
  by_cases hj2:j=2
  ·subst hj2
   by_cases h3:form=3
   ·subst h3
    go_wp2_with (fail)
    go_ret
    exact⟨ret_i (by rw [←HV.out];simp [HF0.out]),HB.out⟩
   by_cases h1:form=1
   ·subst h1
    go_wp2_with (fail)
    go_ret
    exact⟨ret_i (by rw [←HV.out];simp [HF0.out]),HB.out⟩
   by_cases h2:form=2
   ·subst h2
    go_wp2_with (fail)
    go_ret
    exact⟨ret_i (by rw [←HV.out];simp [HF0.out]),HB.out⟩
   ·have e3:(form==3)=false:=by rw [beq_eq_false_iff_ne];exact h3
    have e1:(form==1)=false:=by rw [beq_eq_false_iff_ne];exact h1
    have e2:(form==2)=false:=by rw [beq_eq_false_iff_ne];exact h2
    have hE:V=f:=by rw [←HV.out];simp [HF0.out,h1,h2,h3]
    have HE:=lh hE
    clear h1 h2 h3 hE
    go_wp2_with (fail)
    go_ret
    exact⟨ret_i HE.out.symm,HB.out⟩
  ·have ej2:(j==2)=false:=by rw [beq_eq_false_iff_ne];exact hj2
   by_cases hj1:j=1
   ·subst hj1
    by_cases h3:form=3
    ·subst h3
     go_wp2_with (fail)
     go_ret
     exact⟨ret_i (by rw [←HV.out];simp [HF0.out]),HB.out⟩
    by_cases h2:form=2
    ·subst h2
     go_wp2_with (fail)
     go_ret
     exact⟨ret_i (by rw [←HV.out];simp [HF0.out]),HB.out⟩
    ·have e3:(form==3)=false:=by rw [beq_eq_false_iff_ne];exact h3
     have e2:(form==2)=false:=by rw [beq_eq_false_iff_ne];exact h2
     have hE:V=f:=by rw [←HV.out];simp [HF0.out,h2,h3]
     have HE:=lh hE
     clear h2 h3 hE
     go_wp2_with (fail)
     go_ret
     exact⟨ret_i HE.out.symm,HB.out⟩
   ·have ej1:(j==1)=false:=by rw [beq_eq_false_iff_ne];exact hj1
    have hE:V=f:=by rw [←HV.out];simp [HF0.out,hj1,hj2]
    have HE:=lh hE
    clear hj1 hj2 hE
    go_wp2_with (fail)
    go_ret
    exact⟨ret_i HE.out.symm,HB.out⟩
end
section
open Go.RowKit
def formStep (cs fs:List Int) (last:Int) (i:Nat):List Int × Int :=
 if joinI (ith cs i)=4 then (fs,last)
 else if joinI (ith cs i)=1∨joinI (ith cs i)=2∨joinI (ith cs i)=3 then
  if last<0 then (fs,i)
  else if joinI (ith cs last.toNat)≠2∧joinI (ith cs last.toNat)≠3 then (fs,i)
  else if joinI (ith cs last.toNat)=2 then
   ((if joinI (ith cs i)≠3 then fs.set i 3 else fs).set last.toNat (if ith (if joinI (ith cs i)≠3 then fs.set i 3 else fs) last.toNat=3 then 2 else 1),i)
  else (if joinI (ith cs i)≠3 then fs.set i 3 else fs,i)
 else (fs,i)
def formsF (cs:List Int):Nat→List Int × Int
 | 0=>(List.replicate cs.length 0,-1)
 | n+1=>formStep cs (formsF cs n).1 (formsF cs n).2 n
def formsI (cs:List Int):List Int:=(formsF cs cs.length).1
theorem formStep_len (cs fs:List Int) (last:Int) (i:Nat):(formStep cs fs last i).1.length=fs.length:=by
 unfold formStep
 repeat' split
 all_goals simp
theorem formStep_last (cs fs:List Int) (last:Int) (i:Nat):(formStep cs fs last i).2=last∨(formStep cs fs last i).2=i:=by
 unfold formStep
 repeat' split
 all_goals simp
theorem formsF_len (cs:List Int):∀n,(formsF cs n).1.length=cs.length
 | 0=>by simp [formsF]
 | n+1=>by rw [formsF,formStep_len,formsF_len cs n]
theorem formsF_last (cs:List Int):∀n:Nat,-1≤(formsF cs n).2∧(formsF cs n).2<(n:Int)
 | 0=>by simp [formsF]
 | n+1=>by
   have h:=formsF_last cs n
   rw [formsF]
   rcases formStep_last cs (formsF cs n).1 (formsF cs n).2 n with e | e <;> (rw [e];omega)
theorem formsI_len (cs:List Int):(formsI cs).length=cs.length:=formsF_len cs _
def FormsPost (cs:List Int) (n:Nat) (w:World) (e:Ending) (w':World):Prop :=
 e=.returned (.slice (some ⟨w.heap.size,0,none⟩) n n)∧OutAt .i8 22 w' w.heap.size (some ⟨w.heap.size,0,none⟩) n (formsI cs)∧Below w.heap.size w w'
set_option maxRecDepth 100000 in
set_option maxHeartbeats 2000000 in
theorem Forms_any (a:Option Addr) (cs:List Int) (n c:Nat) (w:World) (hl:cs.length=n) (hd:Rd .i32 w a cs) (hn:n≤2097152) :
 Calls Tryz.prog 168 #[.slice a n c] w (FormsPost cs n w):=by
 obtain⟨i3,hi3,hz3,ha3,hb3⟩:=info_parts (Tryz.info_i8)
 have HL:=lh hl
 have hOI:formsI cs=(formsF cs n).1:=by unfold formsI;rw [hl]
 have HOI:=lh hOI
 have hmk:=run_make_row (P:=Tryz.prog) 103 22 i3 (.int .i8 0) Tryz.underlying103 hi3 hz3 ha3 rfl .i64 .i64 n (by rw [hb3];omega) (by omega)
 clear hl hOI
 go_enter Tryz.func168,Tryz.ntmps168
 go_wp2_with (fail)
 refine wp_scope_straight ?_
 go_wp2_with (fail)
 clear hmk
 refine wp_label ?_
 go_wp2_with (fail)
 have hO0:OutAt .i8 22 (w.alloc (.cells (madeCells #[.int .i8 0] n) 22)) w.heap.size (some ⟨w.heap.size,0,none⟩) n (formsF cs 0).1 :=
  out_of_row ((World.rowIs_made w (.int .i8 0) n 22).congr fun i hi=>by
   rw [formsF]
   unfold ith
   simp [HL.out,hi]) ((formsF_len cs 0).trans HL.out) (Nat.le_refl _) (by unfold maxLen;omega)
 have hb0:=(Below.refl w.heap.size w).alloc (Nat.le_refl _) (.cells (madeCells #[.int .i8 0] n) 22)
 go_loopw [4,5,6,7,8,14] (fun u4 _ _ _ _ u wx=>∃i:Nat,i≤n∧u=.int .i64 i∧u4=.int .i64 (formsF cs i).2∧OutAt .i8 22 wx w.heap.size (some ⟨w.heap.size,0,none⟩) n (formsF cs i).1∧Below w.heap.size w wx) (fun _ _ _ _ _ u _=>n-(intOf u).toNat)
 case atStart=>exact⟨0,by omega,rfl,rfl,hO0,hb0⟩
 case round =>
  obtain⟨i,hi,rfl,rfl,hO,hbel⟩:=hrel
  clear hO0 hb0
  by_cases hlt:i<n
  ·obtain⟨G,o,rfl,hG,hcl⟩:=hd.at hbel i (by rw [HL.out];exact hlt)
   obtain⟨fs,hfs⟩:∃fs,(formsF cs i).1=fs:=⟨_,rfl⟩
   obtain⟨L,hL⟩:∃L,(formsF cs i).2=L:=⟨_,rfl⟩
   have hnx:formsF cs (i+1)=formStep cs fs L i:=by rw [formsF,hfs,hL]
   have hfl:fs.length=n:=by rw [←hfs,formsF_len,HL.out]
   have hlb:=formsF_last cs i
   rw [hL] at hlb ⊢
   rw [hfs] at hO
   obtain⟨y,hy⟩:∃y,ith cs i=y:=⟨_,rfl⟩
   rw [hy] at hcl
   obtain⟨k,hk⟩:∃k,joinI y=k:=⟨_,rfl⟩
   unfold formStep at hnx
   rw [hy,hk] at hnx
   have HJ:Hid (∀W,Calls Tryz.prog 200 #[.int .i32 y] W fun e w'=>e=.returned (.int .i8 k)∧Below W.heap.size W w'):=lh fun W=>hk▸Join_any y W
   have HNX:=lh hnx
   have HO:=lh hO
   have HBE:=lh hbel
   have HFL:=lh hfl
   have gi0:(0:Int)≤(i:Int):=by omega
   have gi1:(i:Int)<(n:Int):=by omega
   clear hfs hL hnx hO hbel hfl hy hk
   go_upto_region 7 with (go_at_call 200;refine (HJ.out _).mono ?_;rintro e w1 ⟨rfl,hb1⟩)
   have hO1:=HO.out.keep hb1
   have hB1:=HBE.out.trans (hb1.mono HBE.out.size)
   have HO1:=lh hO1
   have HB1:=lh hB1
   clear hcl hb1 hO1 hB1 HO HBE HJ
   by_cases hk4:k=4
   ·subst hk4
    have hN:formsF cs (i+1)=(fs,L):=by rw [HNX.out,if_pos rfl]
    have HN:=lh hN
    clear hN
    go_wp2_with (fail)
    go_roundw
    case rel=>exact⟨i+1,by omega,by go_num,by rw [HN.out],by rw [HN.out];exact HO1.out,HB1.out⟩
    case measure=>simp [intOf];omega
   by_cases hk1:k=1
   ·subst hk1
    clear hk4
    by_cases hL0:L<0
    ·have HL0:=lh hL0
     have hN:formsF cs (i+1)=(fs,(i:Int)):=by rw [HNX.out];simp [HL0.out]
     have HN:=lh hN
     clear hN
     go_wp2_with (fail)
     go_roundw
     case rel=>exact⟨i+1,by omega,by go_num,by rw [HN.out],by rw [HN.out];exact HO1.out,HB1.out⟩
     case measure=>simp [intOf];omega
    obtain⟨l,rfl⟩:∃l:Nat,L=l:=⟨L.toNat,by omega⟩
    have hli:l<i:=by omega
    have gl0:(0:Int)≤(l:Int):=by omega
    have gl1:(l:Int)<(n:Int):=by omega
    obtain⟨G2,o2,e2,hG2,hcl2⟩:=hd.at HB1.out l (by rw [HL.out];omega)
    cases e2
    obtain⟨z,hz⟩:∃z,ith cs l=z:=⟨_,rfl⟩
    rw [hz] at hcl2
    obtain⟨b,hb⟩:∃b,joinI z=b:=⟨_,rfl⟩
    have hnx:=HNX.out
    rw [Int.toNat_natCast,hz,hb] at hnx
    have HJ2:Hid (∀W,Calls Tryz.prog 200 #[.int .i32 z] W fun e w'=>e=.returned (.int .i8 b)∧Below W.heap.size W w'):=lh fun W=>hb▸Join_any z W
    clear HNX hz hb
    have HNX:=lh hnx
    clear hnx
    go_upto_region 14 with (go_at_call 200;refine (HJ2.out _).mono ?_;rintro e w2 ⟨rfl,hb2⟩)
    have hO2:=HO1.out.keep hb2
    have hB2:=HB1.out.trans (hb2.mono HB1.out.size)
    have HO2:=lh hO2
    have HB2:=lh hB2
    clear hcl2 hb2 hO2 hB2 HO1 HB1 HJ2
    by_cases hb2:b=2
    ·subst hb2
     obtain⟨_,hGe,_,_,hXo,hFo,_,_⟩:=HO2.out.at i (by rw [HFL.out];omega)
     cases hGe
     generalize ith fs i=vi at hXo
     have hS:=HO2.out.set i 3
     have hSB:=HB2.out.setCell (p:=⟨w.heap.size,i,none⟩) (Nat.le_refl _) (.int .i8 3)
     go_upto_region 17 with (fail)
     clear hXo hFo
     generalize w2.setCell ⟨w.heap.size,i,none⟩ (.int .i8 3)=w3 at hS hSB ⊢
     have HO3:=lh hS
     have HB3:=lh hSB
     clear hS hSB
     obtain⟨_,hGe,_,_,hXo,hFo,_,_⟩:=HO3.out.at l (by first | (rw [HFL.out];omega) | (rw [List.length_set,HFL.out];omega))
     cases hGe
     obtain⟨vo,hvo⟩:∃vo,ith (fs.set i 3) l=vo:=⟨_,rfl⟩
     rw [hvo] at hXo
     have HVO:=lh hvo
     clear hvo
     by_cases hv3:vo=3
     ·subst hv3
      have hS:=OutAt.set HO3.out l 2
      have HS:=lh hS
      have HSB:=lh (HB3.out.setCell (p:=⟨w.heap.size,l,none⟩) (Nat.le_refl _) (.int .i8 2))
      clear hS
      have hN:formsF cs (i+1)=((fs.set i 3).set l 2,(i:Int)):=by rw [HNX.out];simp [show ¬ ((l:Int)<0) from by omega,HVO.out]
      have HN:=lh hN
      clear hN
      go_wp2_with (fail)
      go_roundw
      case rel=>exact⟨i+1,by omega,by go_num,by rw [HN.out],by rw [HN.out];exact HS.out,HSB.out⟩
      case measure=>simp [intOf];omega
     ·have ev3:(vo==3)=false:=by rw [beq_eq_false_iff_ne];exact hv3
      have hS:=OutAt.set HO3.out l 1
      have HS:=lh hS
      have HSB:=lh (HB3.out.setCell (p:=⟨w.heap.size,l,none⟩) (Nat.le_refl _) (.int .i8 1))
      clear hS
      have HV3:=lh hv3
      clear hv3
      have hN:formsF cs (i+1)=((fs.set i 3).set l 1,(i:Int)):=by rw [HNX.out];simp [show ¬ ((l:Int)<0) from by omega,HVO.out,HV3.out]
      have HN:=lh hN
      clear hN
      go_wp2_with (fail)
      go_roundw
      case rel=>exact⟨i+1,by omega,by go_num,by rw [HN.out],by rw [HN.out];exact HS.out,HSB.out⟩
      case measure=>simp [intOf];omega
    by_cases hb3:b=3
    ·subst hb3
     clear hb2
     obtain⟨_,hGe,_,_,hXo,hFo,_,_⟩:=HO2.out.at i (by rw [HFL.out];omega)
     cases hGe
     generalize ith fs i=vi at hXo
     have hS:=HO2.out.set i 3
     have hSB:=HB2.out.setCell (p:=⟨w.heap.size,i,none⟩) (Nat.le_refl _) (.int .i8 3)
     go_upto_region 17 with (fail)
     clear hXo hFo
     generalize w2.setCell ⟨w.heap.size,i,none⟩ (.int .i8 3)=w3 at hS hSB ⊢
     have HO3:=lh hS
     have HB3:=lh hSB
     clear hS hSB
     have hN:formsF cs (i+1)=(fs.set i 3,(i:Int)):=by rw [HNX.out];simp [show ¬ ((l:Int)<0) from by omega]
     have HN:=lh hN
     clear hN
     go_wp2_with (fail)
     go_roundw
     case rel=>exact⟨i+1,by omega,by go_num,by rw [HN.out],by rw [HN.out];exact HO3.out,HB3.out⟩
     case measure=>simp [intOf];omega
    have eb2:(b==2)=false:=by rw [beq_eq_false_iff_ne];exact hb2
    have eb3:(b==3)=false:=by rw [beq_eq_false_iff_ne];exact hb3
    have nb2:(b != 2)=true:=by simp [hb2]
    have nb3:(b != 3)=true:=by simp [hb3]
    have HC2:=lh hb2
    have HC3:=lh hb3
    clear hb2 hb3
    have hN:formsF cs (i+1)=(fs,(i:Int)):=by rw [HNX.out];simp [HC2.out,HC3.out,show ¬ ((l:Int)<0) from by omega]
    have HN:=lh hN
    clear hN
    go_wp2_with (fail)
    go_roundw
    case rel=>exact⟨i+1,by omega,by go_num,by rw [HN.out],by rw [HN.out];exact HO2.out,HB2.out⟩
    case measure=>simp [intOf];omega
   by_cases hk2:k=2
   ·subst hk2
    clear hk4 hk1
    by_cases hL0:L<0
    ·have HL0:=lh hL0
     have hN:formsF cs (i+1)=(fs,(i:Int)):=by rw [HNX.out];simp [HL0.out]
     have HN:=lh hN
     clear hN
     go_wp2_with (fail)
     go_roundw
     case rel=>exact⟨i+1,by omega,by go_num,by rw [HN.out],by rw [HN.out];exact HO1.out,HB1.out⟩
     case measure=>simp [intOf];omega
    obtain⟨l,rfl⟩:∃l:Nat,L=l:=⟨L.toNat,by omega⟩
    have hli:l<i:=by omega
    have gl0:(0:Int)≤(l:Int):=by omega
    have gl1:(l:Int)<(n:Int):=by omega
    obtain⟨G2,o2,e2,hG2,hcl2⟩:=hd.at HB1.out l (by rw [HL.out];omega)
    cases e2
    obtain⟨z,hz⟩:∃z,ith cs l=z:=⟨_,rfl⟩
    rw [hz] at hcl2
    obtain⟨b,hb⟩:∃b,joinI z=b:=⟨_,rfl⟩
    have hnx:=HNX.out
    rw [Int.toNat_natCast,hz,hb] at hnx
    have HJ2:Hid (∀W,Calls Tryz.prog 200 #[.int .i32 z] W fun e w'=>e=.returned (.int .i8 b)∧Below W.heap.size W w'):=lh fun W=>hb▸Join_any z W
    clear HNX hz hb
    have HNX:=lh hnx
    clear hnx
    go_upto_region 14 with (go_at_call 200;refine (HJ2.out _).mono ?_;rintro e w2 ⟨rfl,hb2⟩)
    have hO2:=HO1.out.keep hb2
    have hB2:=HB1.out.trans (hb2.mono HB1.out.size)
    have HO2:=lh hO2
    have HB2:=lh hB2
    clear hcl2 hb2 hO2 hB2 HO1 HB1 HJ2
    by_cases hb2:b=2
    ·subst hb2
     obtain⟨_,hGe,_,_,hXo,hFo,_,_⟩:=HO2.out.at i (by rw [HFL.out];omega)
     cases hGe
     generalize ith fs i=vi at hXo
     have hS:=HO2.out.set i 3
     have hSB:=HB2.out.setCell (p:=⟨w.heap.size,i,none⟩) (Nat.le_refl _) (.int .i8 3)
     go_upto_region 17 with (fail)
     clear hXo hFo
     generalize w2.setCell ⟨w.heap.size,i,none⟩ (.int .i8 3)=w3 at hS hSB ⊢
     have HO3:=lh hS
     have HB3:=lh hSB
     clear hS hSB
     obtain⟨_,hGe,_,_,hXo,hFo,_,_⟩:=HO3.out.at l (by first | (rw [HFL.out];omega) | (rw [List.length_set,HFL.out];omega))
     cases hGe
     obtain⟨vo,hvo⟩:∃vo,ith (fs.set i 3) l=vo:=⟨_,rfl⟩
     rw [hvo] at hXo
     have HVO:=lh hvo
     clear hvo
     by_cases hv3:vo=3
     ·subst hv3
      have hS:=OutAt.set HO3.out l 2
      have HS:=lh hS
      have HSB:=lh (HB3.out.setCell (p:=⟨w.heap.size,l,none⟩) (Nat.le_refl _) (.int .i8 2))
      clear hS
      have hN:formsF cs (i+1)=((fs.set i 3).set l 2,(i:Int)):=by rw [HNX.out];simp [show ¬ ((l:Int)<0) from by omega,HVO.out]
      have HN:=lh hN
      clear hN
      go_wp2_with (fail)
      go_roundw
      case rel=>exact⟨i+1,by omega,by go_num,by rw [HN.out],by rw [HN.out];exact HS.out,HSB.out⟩
      case measure=>simp [intOf];omega
     ·have ev3:(vo==3)=false:=by rw [beq_eq_false_iff_ne];exact hv3
      have hS:=OutAt.set HO3.out l 1
      have HS:=lh hS
      have HSB:=lh (HB3.out.setCell (p:=⟨w.heap.size,l,none⟩) (Nat.le_refl _) (.int .i8 1))
      clear hS
      have HV3:=lh hv3
      clear hv3
      have hN:formsF cs (i+1)=((fs.set i 3).set l 1,(i:Int)):=by rw [HNX.out];simp [show ¬ ((l:Int)<0) from by omega,HVO.out,HV3.out]
      have HN:=lh hN
      clear hN
      go_wp2_with (fail)
      go_roundw
      case rel=>exact⟨i+1,by omega,by go_num,by rw [HN.out],by rw [HN.out];exact HS.out,HSB.out⟩
      case measure=>simp [intOf];omega
    by_cases hb3:b=3
    ·subst hb3
     clear hb2
     obtain⟨_,hGe,_,_,hXo,hFo,_,_⟩:=HO2.out.at i (by rw [HFL.out];omega)
     cases hGe
     generalize ith fs i=vi at hXo
     have hS:=HO2.out.set i 3
     have hSB:=HB2.out.setCell (p:=⟨w.heap.size,i,none⟩) (Nat.le_refl _) (.int .i8 3)
     go_upto_region 17 with (fail)
     clear hXo hFo
     generalize w2.setCell ⟨w.heap.size,i,none⟩ (.int .i8 3)=w3 at hS hSB ⊢
     have HO3:=lh hS
     have HB3:=lh hSB
     clear hS hSB
     have hN:formsF cs (i+1)=(fs.set i 3,(i:Int)):=by rw [HNX.out];simp [show ¬ ((l:Int)<0) from by omega]
     have HN:=lh hN
     clear hN
     go_wp2_with (fail)
     go_roundw
     case rel=>exact⟨i+1,by omega,by go_num,by rw [HN.out],by rw [HN.out];exact HO3.out,HB3.out⟩
     case measure=>simp [intOf];omega
    have eb2:(b==2)=false:=by rw [beq_eq_false_iff_ne];exact hb2
    have eb3:(b==3)=false:=by rw [beq_eq_false_iff_ne];exact hb3
    have nb2:(b != 2)=true:=by simp [hb2]
    have nb3:(b != 3)=true:=by simp [hb3]
    have HC2:=lh hb2
    have HC3:=lh hb3
    clear hb2 hb3
    have hN:formsF cs (i+1)=(fs,(i:Int)):=by rw [HNX.out];simp [HC2.out,HC3.out,show ¬ ((l:Int)<0) from by omega]
    have HN:=lh hN
    clear hN
    go_wp2_with (fail)
    go_roundw
    case rel=>exact⟨i+1,by omega,by go_num,by rw [HN.out],by rw [HN.out];exact HO2.out,HB2.out⟩
    case measure=>simp [intOf];omega
   by_cases hk3:k=3
   ·subst hk3
    clear hk4 hk1 hk2
    by_cases hL0:L<0
    ·have HL0:=lh hL0
     have hN:formsF cs (i+1)=(fs,(i:Int)):=by rw [HNX.out];simp [HL0.out]
     have HN:=lh hN
     clear hN
     go_wp2_with (fail)
     go_roundw
     case rel=>exact⟨i+1,by omega,by go_num,by rw [HN.out],by rw [HN.out];exact HO1.out,HB1.out⟩
     case measure=>simp [intOf];omega
    obtain⟨l,rfl⟩:∃l:Nat,L=l:=⟨L.toNat,by omega⟩
    have hli:l<i:=by omega
    have gl0:(0:Int)≤(l:Int):=by omega
    have gl1:(l:Int)<(n:Int):=by omega
    obtain⟨G2,o2,e2,hG2,hcl2⟩:=hd.at HB1.out l (by rw [HL.out];omega)
    cases e2
    obtain⟨z,hz⟩:∃z,ith cs l=z:=⟨_,rfl⟩
    rw [hz] at hcl2
    obtain⟨b,hb⟩:∃b,joinI z=b:=⟨_,rfl⟩
    have hnx:=HNX.out
    rw [Int.toNat_natCast,hz,hb] at hnx
    have HJ2:Hid (∀W,Calls Tryz.prog 200 #[.int .i32 z] W fun e w'=>e=.returned (.int .i8 b)∧Below W.heap.size W w'):=lh fun W=>hb▸Join_any z W
    clear HNX hz hb
    have HNX:=lh hnx
    clear hnx
    go_upto_region 14 with (go_at_call 200;refine (HJ2.out _).mono ?_;rintro e w2 ⟨rfl,hb2⟩)
    have hO2:=HO1.out.keep hb2
    have hB2:=HB1.out.trans (hb2.mono HB1.out.size)
    have HO2:=lh hO2
    have HB2:=lh hB2
    clear hcl2 hb2 hO2 hB2 HO1 HB1 HJ2
    by_cases hb2:b=2
    ·subst hb2
     go_upto_region 17 with (fail)
     obtain⟨_,hGe,_,_,hXo,hFo,_,_⟩:=HO2.out.at l (by first | (rw [HFL.out];omega) | (rw [List.length_set,HFL.out];omega))
     cases hGe
     obtain⟨vo,hvo⟩:∃vo,ith (fs) l=vo:=⟨_,rfl⟩
     rw [hvo] at hXo
     have HVO:=lh hvo
     clear hvo
     by_cases hv3:vo=3
     ·subst hv3
      have hS:=OutAt.set HO2.out l 2
      have HS:=lh hS
      have HSB:=lh (HB2.out.setCell (p:=⟨w.heap.size,l,none⟩) (Nat.le_refl _) (.int .i8 2))
      clear hS
      have hN:formsF cs (i+1)=((fs).set l 2,(i:Int)):=by rw [HNX.out];simp [show ¬ ((l:Int)<0) from by omega,HVO.out]
      have HN:=lh hN
      clear hN
      go_wp2_with (fail)
      go_roundw
      case rel=>exact⟨i+1,by omega,by go_num,by rw [HN.out],by rw [HN.out];exact HS.out,HSB.out⟩
      case measure=>simp [intOf];omega
     ·have ev3:(vo==3)=false:=by rw [beq_eq_false_iff_ne];exact hv3
      have hS:=OutAt.set HO2.out l 1
      have HS:=lh hS
      have HSB:=lh (HB2.out.setCell (p:=⟨w.heap.size,l,none⟩) (Nat.le_refl _) (.int .i8 1))
      clear hS
      have HV3:=lh hv3
      clear hv3
      have hN:formsF cs (i+1)=((fs).set l 1,(i:Int)):=by rw [HNX.out];simp [show ¬ ((l:Int)<0) from by omega,HVO.out,HV3.out]
      have HN:=lh hN
      clear hN
      go_wp2_with (fail)
      go_roundw
      case rel=>exact⟨i+1,by omega,by go_num,by rw [HN.out],by rw [HN.out];exact HS.out,HSB.out⟩
      case measure=>simp [intOf];omega
    by_cases hb3:b=3
    ·subst hb3
     clear hb2
     go_upto_region 17 with (fail)
     have hN:formsF cs (i+1)=(fs,(i:Int)):=by rw [HNX.out];simp [show ¬ ((l:Int)<0) from by omega]
     have HN:=lh hN
     clear hN
     go_wp2_with (fail)
     go_roundw
     case rel=>exact⟨i+1,by omega,by go_num,by rw [HN.out],by rw [HN.out];exact HO2.out,HB2.out⟩
     case measure=>simp [intOf];omega
    have eb2:(b==2)=false:=by rw [beq_eq_false_iff_ne];exact hb2
    have eb3:(b==3)=false:=by rw [beq_eq_false_iff_ne];exact hb3
    have nb2:(b != 2)=true:=by simp [hb2]
    have nb3:(b != 3)=true:=by simp [hb3]
    have HC2:=lh hb2
    have HC3:=lh hb3
    clear hb2 hb3
    have hN:formsF cs (i+1)=(fs,(i:Int)):=by rw [HNX.out];simp [HC2.out,HC3.out,show ¬ ((l:Int)<0) from by omega]
    have HN:=lh hN
    clear hN
    go_wp2_with (fail)
    go_roundw
    case rel=>exact⟨i+1,by omega,by go_num,by rw [HN.out],by rw [HN.out];exact HO2.out,HB2.out⟩
    case measure=>simp [intOf];omega
   have e4:(k==4)=false:=by rw [beq_eq_false_iff_ne];exact hk4
   have e1:(k==1)=false:=by rw [beq_eq_false_iff_ne];exact hk1
   have e2:(k==2)=false:=by rw [beq_eq_false_iff_ne];exact hk2
   have e3:(k==3)=false:=by rw [beq_eq_false_iff_ne];exact hk3
   have H1:=lh hk1
   have H2:=lh hk2
   have H3:=lh hk3
   have H4:=lh hk4
   clear hk1 hk2 hk3 hk4
   have hN:formsF cs (i+1)=(fs,(i:Int)):=by rw [HNX.out];simp [H1.out,H2.out,H3.out,H4.out]
   have HN:=lh hN
   clear hN
   go_wp2_with (fail)
   go_roundw
   case rel=>exact⟨i+1,by omega,by go_num,by rw [HN.out],by rw [HN.out];exact HO1.out,HB1.out⟩
   case measure=>simp [intOf];omega
  ·have hie:n=i:=by omega
   subst hie
   rw [←HOI.out] at hO
   have HO1:=lh hO
   have HB1:=lh hbel
   clear hO hbel hi hlt
   go_wp2_with (fail)
   unfold Exit.noGoto
   go_ret
   exact⟨rfl,HO1.out,HB1.out⟩
end
end Go.Proofs.YtlmjbfncopbilaaGreatDoor
