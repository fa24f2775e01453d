/- Part 48 (merged by a program): lemmas of no further condition than each states. -/
import Derived.Test.YtlbclfmbejjneaaGreatDoorR45
namespace Go.Proofs.YtlbclfmbejjneaaGreatDoor
set_option linter.unusedVariables false
set_option linter.unusedSimpArgs false
section
open Go.RowKit Go.Proofs Go.Shelf
attribute [local go_sem] Oper.semAt_some
set_option maxRecDepth 100000 in
theorem k_all:spansI (cellsI (layI sAd 0 0 false false false 0 7 7)) (loI 9 (-3) (sAd.size:Int)) (hiI 9 (-3) (sAd.size:Int))=[(0,7)]:=by kernel_rfl
set_option maxRecDepth 100000 in
theorem k_none:spansI (cellsI (layI sAd 0 0 false false false 0 7 7)) (loI 3 3 (sAd.size:Int)) (hiI 3 3 (sAd.size:Int))=[]:=by kernel_rfl
set_option maxRecDepth 100000 in
theorem k_tb:spansI (cellsI (layI sTb 4 0 false false false 0 3 5)) (loI 1 2 (sTb.size:Int)) (hiI 1 2 (sTb.size:Int))=[(1,3)]:=by kernel_rfl
theorem grown_any (s:ByteArray) (hs:s.size≤2097152) (f t how a b:Int) (hr:growI s f t how=(a,b)) (W:World) (hT:T8 W) :
 Calls Tryz.prog 30 #[.string s,.int .i64 f,.int .i64 t,.int .i8 how,.int .i64 a,.int .i64 b] W fun e w'=>e=.returned (.bool true)∧Below W.heap.size W w':=by
 have HG:=lh (grow_of s hs f t how _ hr W hT)
 clear hr
 go_enter Tryz.func30,Tryz.ntmps30
 go_wp2_with (go_at_call 28;refine HG.out.mono ?_;rintro e w2 ⟨rfl,hb2⟩)
 go_ret
 exact⟨by simp,hb2⟩
set_option maxRecDepth 100000 in
set_option maxHeartbeats 1000000 in
theorem LawCK_any (w:World) (hT:T8 w) (hD:DB w):Calls Tryz.prog 10 #[] w fun e w'=>e=.returned (.bool true)∧Below w.heap.size w w':=by
 have HT:=lh (fun (W:World) (h:Below w.heap.size w W)=>(⟨hT.below rfl h,hD.below h⟩:T8 W∧DB W))
 have HS1:=lh (fun (W:World) (h:Below w.heap.size w W)=>spans_of sAd (by decide) 0 7 0 7 0 0 0 9 (-3) false false false [(0,7)] 1 k_all rfl W (HT.out W h).1 (HT.out W h).2)
 have HS2:=lh (fun (W:World) (h:Below w.heap.size w W)=>spans_of sAd (by decide) 0 7 0 7 0 0 0 3 3 false false false [] 0 k_none rfl W (HT.out W h).1 (HT.out W h).2)
 have HS3:=lh (fun (W:World) (h:Below w.heap.size w W)=>spans_of sTb (by decide) 0 3 0 5 0 4 0 1 2 false false false [(1,3)] 1 k_tb rfl W (HT.out W h).1 (HT.out W h).2)
 have HG1:=lh (fun (W:World) (h:Below w.heap.size w W)=>grown_any sAb (by decide) 1 4 1 0 5 ab_both W (HT.out W h).1)
 have HG2:=lh (fun (W:World) (h:Below w.heap.size w W)=>grown_any sAb (by decide) 3 3 0 3 4 ab_clus W (HT.out W h).1)
 have HG3:=lh (fun (W:World) (h:Below w.heap.size w W)=>grown_any sAb (by decide) 5 5 3 5 5 ab_end W (HT.out W h).1)
 have HG4:=lh (fun (W:World) (h:Below w.heap.size w W)=>grown_any sLn (by decide) 0 4 2 0 5 ln_both W (HT.out W h).1)
 have HG5:=lh (fun (W:World) (h:Below w.heap.size w W)=>grown_any sLn (by decide) 4 1 9 1 4 ln_out W (HT.out W h).1)
 have HWK:=lh (fun (W:World) (h:Below w.heap.size w W)=>works_any W (HT.out W h).1 (HT.out W h).2)
 unfold sAd at HS1 HS2
 unfold sTb at HS3
 unfold sAb at HG1 HG2 HG3
 unfold sLn at HG4 HG5
 clear hT hD
 go_enter Tryz.func10,Tryz.ntmps10
 go_upto_region 3 with (fail)
 have hx1:=World.alloc_heap_new w (.cells #[.int .i64 0,.int .i64 7,.int .u8 0,.int .i64 7,.int .i8 0] 24)
 have hb1:Below w.heap.size w (w.alloc (.cells #[.int .i64 0,.int .i64 7,.int .u8 0,.int .i64 7,.int .i8 0] 24)):=(Below.refl _ _).alloc (Nat.le_refl _) _
 have hz1:=World.size_alloc w (.cells #[.int .i64 0,.int .i64 7,.int .u8 0,.int .i64 7,.int .i8 0] 24)
 generalize w.alloc (.cells #[.int .i64 0,.int .i64 7,.int .u8 0,.int .i64 7,.int .i8 0] 24)=W1 at hx1 hb1 hz1 ⊢
 obtain⟨R,hR⟩:∃R,w.heap.size=R:=⟨_,rfl⟩
 have HB1:=lh hb1
 rw [hR] at hx1 hz1 ⊢
 have HX1:=lh hx1
 have y:∀(W:World),Below W1.heap.size W1 W→W.cell? ⟨R,0,none⟩=some (.int .i64 0)∧W.cell? ⟨R,1,none⟩=some (.int .i64 7)∧W.cell? ⟨R,2,none⟩=some (.int .u8 0)∧W.cell? ⟨R,3,none⟩=some (.int .i64 7)∧W.cell? ⟨R,4,none⟩=some (.int .i8 0):=fun W h=>by
  have h2:=(h.block R (by omega)).trans HX1.out
  refine⟨?_,?_,?_,?_,?_⟩ <;> simp [World.cell?,h2]
 obtain⟨y0,y1,y2,y3,y4⟩:=y W1 (Below.refl _ _)
 have HY:=lh y
 clear hx1 hb1 y
 go_upto_region 4 with (first | (go_at_call 25;refine (HS1.out _ HB1.out).mono ?_;rintro e w3 ⟨a3,c3,rfl,hO3,hb3⟩;have HO3:=lh hO3;have HB3:=lh hb3;clear hO3 hb3 HS1) | (go_at_call 31;refine (same2_of [(0,7)] 1 rfl (by omega) w3 _ _ _ HO3.out [.int .i64 0,.int .i64 7] rfl).mono ?_;rintro e w4 ⟨rfl,hb4⟩;have HB4:=lh (HB3.out.trans (hb4.mono HB3.out.size));obtain⟨z0,z1,z2,z3,z4⟩:=HY.out w4 HB4.out;clear hb4 HO3) | (go_at_call 25;refine (HS2.out _ (HB1.out.trans (HB4.out.mono HB1.out.size))).mono ?_;rintro e w5 ⟨a5,c5,rfl,hO5,hb5⟩;have HB5:=lh ((HB1.out.trans (HB4.out.mono HB1.out.size)).trans (hb5.mono (HB1.out.trans (HB4.out.mono HB1.out.size)).size));clear hO5 hb5 HS2) | (go_at_call 25;refine (HS3.out _ HB5.out).mono ?_;rintro e w6 ⟨a6,c6,rfl,hO6,hb6⟩;have HO6:=lh hO6;have HB6:=lh (HB5.out.trans (hb6.mono HB5.out.size));clear hO6 hb6 HS3) | (go_at_call 31;refine (same2_of [(1,3)] 1 rfl (by omega) w6 _ _ _ HO6.out [.int .i64 1,.int .i64 3] rfl).mono ?_;rintro e w7 ⟨rfl,hb7⟩;have HB7:=lh (HB6.out.trans (hb7.mono HB6.out.size));clear hb7 HO6))
 clear y0 y1 y2 y3 y4 z0 z1 z2 z3 z4 HY HX1
 go_upto_region 5 with (first | (go_at_call 30;refine (HG1.out _ HB7.out).mono ?_;rintro e w8 ⟨rfl,hb8⟩;have HB8:=lh (HB7.out.trans (hb8.mono HB7.out.size));clear hb8 HG1) | (go_at_call 30;refine (HG2.out _ HB8.out).mono ?_;rintro e w9 ⟨rfl,hb9⟩;have HB9:=lh (HB8.out.trans (hb9.mono HB8.out.size));clear hb9 HG2) | (go_at_call 30;refine (HG3.out _ HB9.out).mono ?_;rintro e w10 ⟨rfl,hb10⟩;have HB10:=lh (HB9.out.trans (hb10.mono HB9.out.size));clear hb10 HG3) | (go_at_call 30;refine (HG4.out _ HB10.out).mono ?_;rintro e w11 ⟨rfl,hb11⟩;have HB11:=lh (HB10.out.trans (hb11.mono HB10.out.size));clear hb11 HG4) | (go_at_call 30;refine (HG5.out _ HB11.out).mono ?_;rintro e w12 ⟨rfl,hb12⟩;have HB12:=lh (HB11.out.trans (hb12.mono HB11.out.size));clear hb12 HG5))
 go_wp2_with (go_at_call 24;refine (HWK.out _ HB12.out).mono ?_;rintro e w13 ⟨rfl,hb13⟩)
 go_ret
 exact⟨rfl,hR▸(HB12.out.trans (hb13.mono HB12.out.size))⟩
end
end Go.Proofs.YtlbclfmbejjneaaGreatDoor
