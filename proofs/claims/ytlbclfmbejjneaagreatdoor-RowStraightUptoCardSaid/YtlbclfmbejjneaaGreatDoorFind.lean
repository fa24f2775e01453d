/- Contracts of row.up, scan.Count and (*row.laid).find. Condition: utf8's two tables stand where start-up lays them. -/
import Derived.Test.YtlbclfmbejjneaaGreatDoorAtC
import Derived.Test.YtlbclfmbejjneaaGreatDoorPlainR
import Derived.Test.YtlbclfmbejjneaaGreatDoorStrL
import Derived.Test.YtlbclfmbejjneaaGreatDoorRqL
namespace Go.Proofs.YtlbclfmbejjneaaGreatDoor
set_option linter.unusedVariables false
set_option linter.unusedSimpArgs false
open Go.RowKit Go.Proofs Go.Shelf
attribute [local go_sem] Oper.semAt_some

theorem rup_any (s : ByteArray) (hs : s.size ≤ 2097152) (x : Nat) (w : World) (hT : T8 w) :
    Calls Tryz.prog 74 #[.string s, .int .i64 x] w fun e w' => e = .returned (.int .i64 (upB s x)) ∧ Below w.heap.size w w' := by
  have hA := cAt_any s hs (x : Int) w hT
  have hU : upB s x = if (clAt s (x : Int)).1 = x then x else (clAt s (x : Int)).2 := rfl
  obtain ⟨q, hq⟩ : ∃ q, clAt s (x : Int) = q := ⟨_, rfl⟩
  rw [hq] at hA hU
  obtain ⟨f, t⟩ := q
  dsimp only at hA hU
  rw [hU]
  have HA := Lib.hid hA
  clear hA hU hq hT
  go_enter Tryz.func74, Tryz.ntmps74
  by_cases h : f = x
  · rw [if_pos h]
    subst h
    go_wp2_with (go_at_call 13; refine HA.out.mono ?_; rintro e w1 ⟨rfl, hb⟩)
    go_ret
    exact ⟨rfl, hb⟩
  · rw [if_neg h]
    have hn : ((f : Int) == (x : Int)) = false := by rw [beq_eq_false_iff_ne]; omega
    clear h
    go_wp2_with (go_at_call 13; refine HA.out.mono ?_; rintro e w1 ⟨rfl, hb⟩)
    go_ret
    exact ⟨rfl, hb⟩
theorem conv_str3 (d : ByteArray) (hz : d.size ≤ 2097152) :
    ∃ (C : World → Nat) (F : World → World), (∀ w, (convert 9 82 (.string d)).run Tryz.prog w = .ok (.slice (some ⟨w.heap.size, 0, none⟩) (runesI d).length (C w)) (F w)) ∧ ∀ w, Below w.heap.size w (F w) := by
  obtain ⟨C, F, h1, h2⟩ := conv_str d (by omega)
  exact ⟨C, F, h1, fun w => (h2 w).1⟩
theorem sCount_any (s : ByteArray) (hs : s.size ≤ 2097152) (w : World) :
    Calls Tryz.prog 75 #[.string s] w fun e w' => e = .returned (.int .i64 (runesI s).length) ∧ Below w.heap.size w w' := by
  obtain ⟨C, F, hcv, hF⟩ := conv_str3 s hs
  go_enter Tryz.func75, Tryz.ntmps75
  go_wp2_with (fail)
  go_ret
  exact ⟨rfl, hF w⟩
/-- how a piece lies -/
def pcE : Enc Pc := ⟨fun p => [.int .i64 p.a, .int .i64 p.size, .int .i64 p.c0, .int .i64 p.c1, .int .u8 p.level, .string p.became, .string p.shown, .int .i64 p.wide, .int .i64 p.e0, .int .i64 p.e1], 10, fun _ => rfl⟩
/-- a laid row's block -/
def LdB (W : World) (b : Nat) (lv sv : Value) (fr tt base : Nat) (wide : Int) : Prop :=
  W.heap[b]? = some (.cells #[lv, sv, .int .i64 fr, .int .i64 tt, .int .u8 base, .int .i64 wide] 73 (0, 0))
section
variable {W W' : World} {b : Nat} {lv sv : Value} {fr tt base : Nat} {wide : Int}
theorem LdB.lt (h : LdB W b lv sv fr tt base wide) : b < W.heap.size := (Array.getElem?_eq_some_iff.1 h).1
theorem LdB.below (h : LdB W b lv sv fr tt base wide) {B : Nat} (hb : Below B W W') (hB : b < B) : LdB W' b lv sv fr tt base wide := (hb.block b hB).trans h
theorem LdB.cells (h : LdB W b lv sv fr tt base wide) : W.cell? ⟨b, 0, none⟩ = some lv ∧ W.cell? ⟨b, 1, none⟩ = some sv ∧ W.cell? ⟨b, 2, none⟩ = some (.int .i64 fr) ∧ W.cell? ⟨b, 3, none⟩ = some (.int .i64 tt) ∧ W.cell? ⟨b, 4, none⟩ = some (.int .u8 base) ∧ W.cell? ⟨b, 5, none⟩ = some (.int .i64 wide) := by
  unfold LdB at h
  refine ⟨?_, ?_, ?_, ?_, ?_, ?_⟩ <;> simp [World.cell?, h]
theorem LdB.frz (h : LdB W b lv sv fr tt base wide) (i : Nat) : W.frozen? ⟨b, i, none⟩ = false := by
  unfold LdB at h
  simp [World.frozen?, h]
theorem LdB.set0 (h : LdB W b lv sv fr tt base wide) (v : Value) : LdB (W.setCell ⟨b, 0, none⟩ v) b v sv fr tt base wide := set_at h v
theorem LdB.set1 (h : LdB W b lv sv fr tt base wide) (v : Value) : LdB (W.setCell ⟨b, 1, none⟩ v) b lv v fr tt base wide := set_at h v
theorem LdB.set2 (h : LdB W b lv sv fr tt base wide) (x : Nat) : LdB (W.setCell ⟨b, 2, none⟩ (.int .i64 x)) b lv sv x tt base wide := set_at h _
theorem LdB.set3 (h : LdB W b lv sv fr tt base wide) (x : Nat) : LdB (W.setCell ⟨b, 3, none⟩ (.int .i64 x)) b lv sv fr x base wide := set_at h _
theorem LdB.set4 (h : LdB W b lv sv fr tt base wide) (x : Nat) : LdB (W.setCell ⟨b, 4, none⟩ (.int .u8 x)) b lv sv fr tt x wide := set_at h _
theorem LdB.set5 (h : LdB W b lv sv fr tt base wide) (x : Int) : LdB (W.setCell ⟨b, 5, none⟩ (.int .i64 x)) b lv sv fr tt base x := set_at h _
theorem LdB.other (h : LdB W b lv sv fr tt base wide) {B i : Nat} {v : Value} (hne : b ≠ B) : LdB (W.setCell ⟨B, i, none⟩ v) b lv sv fr tt base wide := box_other h hne
end
/-- the clusters of a list that lie in a stretch -/
def inL (fr tt : Nat) (L : List (Nat × ByteArray)) : List (Nat × ByteArray) := L.filter (fun p => decide (fr ≤ p.1) && decide (p.1 < tt))
theorem inL_snoc (fr tt : Nat) (L : List (Nat × ByteArray)) (p : Nat × ByteArray) : inL fr tt (L ++ [p]) = inL fr tt L ++ if fr ≤ p.1 ∧ p.1 < tt then [p] else [] := by
  unfold inL
  rw [List.filter_append]
  congr 1
  by_cases h : fr ≤ p.1 ∧ p.1 < tt
  · rw [if_pos h, List.filter_cons_of_pos (by simp [h]), List.filter_nil]
  · rw [if_neg h, List.filter_cons_of_neg (by simp; omega), List.filter_nil]
/-- how many characters clusters have -/
def chars (L : List (Nat × ByteArray)) : Nat := ((L.map (·.2)).flatMap runesI).length
theorem chars_snoc (L : List (Nat × ByteArray)) (p : Nat × ByteArray) : chars (L ++ [p]) = chars L + (runesI p.2).length := by
  unfold chars
  rw [List.map_append, List.flatMap_append, List.length_append]
  simp
end Go.Proofs.YtlbclfmbejjneaaGreatDoor
