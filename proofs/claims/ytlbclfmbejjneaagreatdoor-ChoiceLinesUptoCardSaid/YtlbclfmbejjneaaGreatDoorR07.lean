/- Part 7 (merged by a program): lemmas of no further condition than each states. -/
import Derived.Test.YtlbclfmbejjneaaGreatDoorR06
namespace Go.Proofs.YtlbclfmbejjneaaGreatDoor
set_option linter.unusedVariables false
set_option linter.unusedSimpArgs false
section
open Go.RowKit Go.Proofs
abbrev pairV (a b s:Int):Value:=.agg #[.int .i8 a,.int .i8 b,.int .i8 s]
def RulP (c:Bool) (w:World) (e:Ending) (w':World):Prop:=e=.returned (.bool c)∧Below w.heap.size w w'
theorem spaced_any (a b s:Int) (w:World):Calls Tryz.prog 143 #[pairV a b s] w (RulP (decide (a=1)) w):=by
 go_enter Tryz.func143,Tryz.ntmps143
 go_wp2
 all_goals go_ret
 all_goals (refine⟨ret_b ?_,(Below.refl _ _).alloc (Nat.le_refl _) _⟩;rw [Bool.eq_iff_iff];simp)
theorem rule0_any (a b s:Int) (w:World):Calls Tryz.prog 169 #[pairV a b s] w (RulP (decide (a=2)) w):=by
 go_enter Tryz.func169,Tryz.ntmps169
 go_wp2
 all_goals go_ret
 all_goals (refine⟨ret_b ?_,(Below.refl _ _).alloc (Nat.le_refl _) _⟩;rw [Bool.eq_iff_iff];simp;try omega)
theorem rule1_any (a b s:Int) (w:World):Calls Tryz.prog 170 #[pairV a b s] w (RulP (decide (b=2∨b=1∨b=9)) w):=by
 go_enter Tryz.func170,Tryz.ntmps170
 go_wp2
 all_goals go_ret
 all_goals (refine⟨ret_b ?_,(Below.refl _ _).alloc (Nat.le_refl _) _⟩;rw [Bool.eq_iff_iff];simp;try omega)
theorem rule2_any (a b s:Int) (w:World):Calls Tryz.prog 171 #[pairV a b s] w (RulP (decide (s=9)) w):=by
 go_enter Tryz.func171,Tryz.ntmps171
 go_wp2
 all_goals go_ret
 all_goals (refine⟨ret_b ?_,(Below.refl _ _).alloc (Nat.le_refl _) _⟩;rw [Bool.eq_iff_iff];simp;try omega)
theorem rule3_any (a b s:Int) (w:World):Calls Tryz.prog 172 #[pairV a b s] w (RulP (decide (a=12∨b=12∨a=5)) w):=by
 go_enter Tryz.func172,Tryz.ntmps172
 go_wp2
 all_goals go_ret
 all_goals (refine⟨ret_b ?_,(Below.refl _ _).alloc (Nat.le_refl _) _⟩;rw [Bool.eq_iff_iff];simp;try omega)
theorem rule5_any (a b s:Int) (w:World):Calls Tryz.prog 174 #[pairV a b s] w (RulP (decide (b=4∨s=3)) w):=by
 go_enter Tryz.func174,Tryz.ntmps174
 go_wp2
 all_goals go_ret
 all_goals (refine⟨ret_b ?_,(Below.refl _ _).alloc (Nat.le_refl _) _⟩;rw [Bool.eq_iff_iff];simp;try omega)
theorem rule8_any (a b s:Int) (w:World):Calls Tryz.prog 176 #[pairV a b s] w (RulP (decide (b=6)) w):=by
 go_enter Tryz.func176,Tryz.ntmps176
 go_wp2
 all_goals go_ret
 all_goals (refine⟨ret_b ?_,(Below.refl _ _).alloc (Nat.le_refl _) _⟩;rw [Bool.eq_iff_iff];simp;try omega)
theorem rule9_any (a b s:Int) (w:World):Calls Tryz.prog 177 #[pairV a b s] w (RulP (decide (a=6∧b=10)) w):=by
 go_enter Tryz.func177,Tryz.ntmps177
 go_wp2
 all_goals go_ret
 all_goals (refine⟨ret_b ?_,(Below.refl _ _).alloc (Nat.le_refl _) _⟩;rw [Bool.eq_iff_iff];simp;try omega)
theorem rule10_any (a b s:Int) (w:World):Calls Tryz.prog 178 #[pairV a b s] w (RulP (decide (a=6)) w):=by
 go_enter Tryz.func178,Tryz.ntmps178
 go_wp2
 all_goals go_ret
 all_goals (refine⟨ret_b ?_,(Below.refl _ _).alloc (Nat.le_refl _) _⟩;rw [Bool.eq_iff_iff];simp;try omega)
theorem rule11_any (a b s:Int) (w:World):Calls Tryz.prog 179 #[pairV a b s] w (RulP (decide (a=7∨b=7)) w):=by
 go_enter Tryz.func179,Tryz.ntmps179
 go_wp2
 all_goals go_ret
 all_goals (refine⟨ret_b ?_,(Below.refl _ _).alloc (Nat.le_refl _) _⟩;rw [Bool.eq_iff_iff];simp;try omega)
set_option maxHeartbeats 1000000 in
theorem rule4_any (a b s:Int) (w:World):Calls Tryz.prog 173 #[pairV a b s] w (RulP (decide (b=5∧a≠1∧a≠6)) w):=by
 have hb0:Below w.heap.size w (w.alloc (.cells #[.int .i8 a,.int .i8 b,.int .i8 s] 209)):=(Below.refl _ _).alloc (Nat.le_refl _) _
 have hc0:(w.alloc (.cells #[.int .i8 a,.int .i8 b,.int .i8 s] 209)).cell? ⟨w.heap.size,0,none⟩=some (.int .i8 a):=by unfold World.cell?;rw [heap_alloc_new];rfl
 have HB0:=lh hb0
 have HC0:=lh hc0
 clear hb0 hc0
 go_enter Tryz.func173,Tryz.ntmps173
 by_cases e5:b=5
 ·subst e5
  by_cases e1:a=1
  ·subst e1
   go_wp2_with (go_at_call 143;refine (spaced_any _ _ _ _).mono ?_;rintro e w1 ⟨rfl,hb1⟩;have hc1:=cell_bl hb1 (cell_lt HC0.out) HC0.out)
   go_ret
   exact⟨ret_b (by simp),HB0.out.trans (hb1.mono HB0.out.size)⟩
  ·go_wp2_with (go_at_call 143;refine (spaced_any _ _ _ _).mono ?_;rw [decide_eq_false e1];rintro e w1 ⟨rfl,hb1⟩;have hc1:=cell_bl hb1 (cell_lt HC0.out) HC0.out)
   go_ret
   exact⟨ret_b (by rw [Bool.eq_iff_iff];simp [e1]),HB0.out.trans (hb1.mono HB0.out.size)⟩
 ·have c5:(b==5)=false:=by simpa using e5
  go_wp2_with (fail)
  go_ret
  exact⟨ret_b (by simp [e5]),HB0.out⟩
set_option maxHeartbeats 1000000 in
theorem rule6_any (a b s:Int) (w:World):Calls Tryz.prog 175 #[pairV a b s] w (RulP (decide (b=11∧a≠1)) w):=by
 have hb0:Below w.heap.size w (w.alloc (.cells #[.int .i8 a,.int .i8 b,.int .i8 s] 209)):=(Below.refl _ _).alloc (Nat.le_refl _) _
 have hc0:(w.alloc (.cells #[.int .i8 a,.int .i8 b,.int .i8 s] 209)).cell? ⟨w.heap.size,0,none⟩=some (.int .i8 a):=by unfold World.cell?;rw [heap_alloc_new];rfl
 have HB0:=lh hb0
 have HC0:=lh hc0
 clear hb0 hc0
 go_enter Tryz.func175,Tryz.ntmps175
 by_cases e5:b=11
 ·subst e5
  by_cases e1:a=1
  ·subst e1
   go_wp2_with (go_at_call 143;refine (spaced_any _ _ _ _).mono ?_;rintro e w1 ⟨rfl,hb1⟩;have hc1:=cell_bl hb1 (cell_lt HC0.out) HC0.out)
   go_ret
   exact⟨ret_b (by simp),HB0.out.trans (hb1.mono HB0.out.size)⟩
  ·go_wp2_with (go_at_call 143;refine (spaced_any _ _ _ _).mono ?_;rw [decide_eq_false e1];rintro e w1 ⟨rfl,hb1⟩;have hc1:=cell_bl hb1 (cell_lt HC0.out) HC0.out)
   go_ret
   exact⟨ret_b (by rw [Bool.eq_iff_iff];simp [e1]),HB0.out.trans (hb1.mono HB0.out.size)⟩
 ·have c5:(b==11)=false:=by simpa using e5
  go_wp2_with (fail)
  go_ret
  exact⟨ret_b (by simp [e5]),HB0.out⟩
end
section
open Go.RowKit Go.Proofs Go.Shelf
attribute [local go_sem] Oper.semAt_some
def rulF:Nat→Nat
 | 0=>169 | 1=>170 | 2=>171 | 3=>172 | 4=>173 | 5=>174
 | 6=>175 | 7=>143 | 8=>176 | 9=>177 | 10=>178 | _=>179
def rulV:Nat→Int
 | 0=>2 | 1=>0 | 2=>1 | 3=>0 | 4=>0 | 5=>0 | 6=>0 | 7=>1 | 8=>0 | 9=>0 | 10=>1 | _=>1
def rulB (a b s:Int):Nat→Bool
 | 0=>decide (a=2) | 1=>decide (b=2∨b=1∨b=9) | 2=>decide (s=9) | 3=>decide (a=12∨b=12∨a=5) | 4=>decide (b=5∧a≠1∧a≠6) | 5=>decide (b=4∨s=3)
 | 6=>decide (b=11∧a≠1) | 7=>decide (a=1) | 8=>decide (b=6) | 9=>decide (a=6∧b=10) | 10=>decide (a=6) | _=>decide (a=7∨b=7)
def rulL (a b s acc:Int):Nat→Nat→Int
 | 0,_=>acc
 | m+1,i=>if rulB a b s i=true then rulV i else rulL a b s acc m (i+1)
theorem rulL_all (a b s:Int):rulL a b s 0 12 0=ruleI a b s:=by
 unfold ruleI
 simp only [rulL,rulB,rulV,decide_eq_true_eq]
def rulCells:List Value:=(List.range 12).flatMap fun i=>[.func (.func (rulF i)) #[] #[],.int .i8 (rulV i)]
theorem brules_any (w:World):Calls Tryz.prog 142 #[] w fun e w'=>e=.returned (.slice (some ⟨w.heap.size,0,none⟩) 12 12)∧w'=w.alloc (.cells rulCells.toArray 212):=by
 go_enter Tryz.func142,Tryz.ntmps142
 go_wp2
 go_ret
 exact⟨rfl,rfl⟩
theorem rule_any (i:Nat) (hi:i<12) (a b s:Int) (w:World):Calls Tryz.prog (rulF i) #[pairV a b s] w (RulP (rulB a b s i) w):=by
 have:i=0∨i=1∨i=2∨i=3∨i=4∨i=5∨i=6∨i=7∨i=8∨i=9∨i=10∨i=11:=by omega
 rcases this with rfl | rfl | rfl | rfl | rfl | rfl | rfl | rfl | rfl | rfl | rfl | rfl
 ·exact rule0_any a b s w
 ·exact rule1_any a b s w
 ·exact rule2_any a b s w
 ·exact rule3_any a b s w
 ·exact rule4_any a b s w
 ·exact rule5_any a b s w
 ·exact rule6_any a b s w
 ·exact spaced_any a b s w
 ·exact rule8_any a b s w
 ·exact rule9_any a b s w
 ·exact rule10_any a b s w
 ·exact rule11_any a b s w
end
end Go.Proofs.YtlbclfmbejjneaaGreatDoor
