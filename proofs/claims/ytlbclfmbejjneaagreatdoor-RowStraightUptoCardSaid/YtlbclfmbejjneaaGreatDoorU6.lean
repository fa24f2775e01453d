/- Contracts of shuttlelaw15's texts, whole, alive. -/
import Derived.Test.YtlbclfmbejjneaaGreatDoorU3
import Derived.Test.YtlbclfmbejjneaaGreatDoorU4
import Derived.Test.YtlbclfmbejjneaaGreatDoorU5
import Derived.Test.YtlbclfmbejjneaaGreatDoorU1
namespace Go.Proofs.YtlbclfmbejjneaaGreatDoor
section
set_option linter.unusedVariables false
set_option linter.unusedSimpArgs false

def sMix : ByteArray := ⟨#[97, 215, 144, 215, 145, 98]⟩
def sWide : ByteArray := ⟨#[97, 228, 184, 150, 255]⟩
def rMix : LaidR := layI sMix 0 0 false false false 0 6 99
def rWide : LaidR := layI sWide 0 0 false false false 0 5 9
def lvB (L : List Pc) : Bool := L.all fun p => decide (p.level < 256)
def goodB (L : List Pc) : Bool := L.all fun p => !decide (0 < p.wide) || (decide (p.wide ≤ 19) && (wholeB p || (asciiB p.shown && decide (p.wide = p.shown.size))))
def smallB (l : List St) : Bool := l.all fun s => decide (-1099511627776 ≤ s.x) && decide (s.x ≤ 1099511627776)
theorem lvB_of {L : List Pc} (h : lvB L = true) : ∀ p ∈ L, p.level < 256 := fun p hp => by
  have := List.all_eq_true.1 h p hp
  simpa using this
theorem goodB_of {L : List Pc} (h : goodB L = true) : ∀ p ∈ L, GoodP p := fun p hp hw => by
  have := List.all_eq_true.1 h p hp
  simp only [Bool.or_eq_true, Bool.not_eq_true', decide_eq_false_iff_not, Bool.and_eq_true, decide_eq_true_eq] at this
  rcases this with h | h
  · exact absurd hw h
  · exact h
theorem smallB_of {l : List St} (h : smallB l = true) : smallX l := fun s hs => by
  have := List.all_eq_true.1 h s hs
  simpa using this
/-- the texts of cells, a dot for each without one -/
def textsF : List Ce → ByteArray → ByteArray
  | [], acc => acc
  | c :: t, acc => textsF t (acc ++ if c.text.size = 0 then ⟨#[46]⟩ else c.text)
set_option maxRecDepth 100000
theorem mix_lv : lvB (lay2 sMix 0 false false 0 6) = true := by kernel_rfl
theorem mix_good : goodB rMix.l = true := by kernel_rfl
theorem mix_raw : (rawS rMix 0).length = 7 := by kernel_rfl
theorem mix_lt : (rawS rMix 0).length < 20 := by rw [mix_raw]; exact (by omega : 7 < 20)
theorem mix_pos : 0 < (rawS rMix 0).length := by rw [mix_raw]; exact (by omega : 0 < 7)
theorem mix_small : smallB (rawS rMix 0) = true := by kernel_rfl
theorem mix_small2 : smallB (stopsI rMix 0) = true := by kernel_rfl
theorem mix_stops : stopsI rMix 0 = [⟨0, false, 0⟩, ⟨1, true, 1⟩, ⟨5, true, 1⟩, ⟨3, false, 2⟩, ⟨1, false, 3⟩, ⟨5, false, 3⟩, ⟨6, false, 4⟩] := by kernel_rfl
theorem mix_len : (cellsI rMix).length = 4 := by kernel_rfl
theorem mix_texts : textsF (cellsI rMix) ⟨#[]⟩ = ⟨#[97, 215, 145, 215, 144, 98]⟩ := by kernel_rfl
theorem mix_place : placeI rMix 1 false = 3 ∧ placeI rMix 1 true = 1 := ⟨by kernel_rfl, by kernel_rfl⟩
theorem mix_hit : (hitI rMix 0 2).a = 3 := by kernel_rfl
theorem wide_lv : lvB (lay2 sWide 0 false false 0 5) = true := by kernel_rfl
theorem wide_good : goodB rWide.l = true := by kernel_rfl
theorem wide_len : (cellsI rWide).length = 7 := by kernel_rfl
theorem wide_texts : textsF (cellsI rWide) ⟨#[]⟩ = ⟨#[97, 228, 184, 150, 46, 60, 102, 102, 62]⟩ := by kernel_rfl
theorem mix_short : (cellsI rMix).all (fun c => decide (c.text.size ≤ 20)) = true := by kernel_rfl
theorem wide_short : (cellsI rWide).all (fun c => decide (c.text.size ≤ 20)) = true := by kernel_rfl
end
section
set_option linter.unusedVariables false
set_option linter.unusedSimpArgs false
open Go.RowKit Go.Proofs Go.Shelf
attribute [local go_sem] Oper.semAt_some

theorem row_size : (Tryz.prog.info? 24).map (·.size) = some 5 := by kernel_rfl
theorem whole_any (s : ByteArray) (wd fin : Int) (w : World) :
    Calls Tryz.prog 15 #[.string s, .int .i64 wd, .int .i8 fin] w fun e w' => e = .returned (rowA5 0 s.size 0 wd fin) ∧ Below w.heap.size w w' := by
  go_enter Tryz.func15, Tryz.ntmps15
  go_wp2_with (fail)
  have hx := World.alloc_heap_new w (.cells #[.int .i64 0, .int .i64 s.size, .int .u8 0, .int .i64 wd, .int .i8 fin] 24)
  have hb : Below w.heap.size w (w.alloc (.cells #[.int .i64 0, .int .i64 s.size, .int .u8 0, .int .i64 wd, .int .i8 fin] 24)) := (Below.refl _ _).alloc (Nat.le_refl _) _
  refine bodyPost_ret (results_cell_row (ty := 24) rfl _ _ w.heap.size _ _ _ _ rfl hx row_under rfl row_size) rfl ⟨rfl, hb⟩
theorem textsF_app : ∀ (A B : List Ce) (acc : ByteArray), textsF (A ++ B) acc = textsF B (textsF A acc)
  | [], _, _ => rfl
  | c :: A, B, acc => by rw [List.cons_append, textsF, textsF_app A B, textsF]
set_option maxRecDepth 100000 in
set_option maxHeartbeats 1000000 in
theorem texts_any (base n c : Nat) (a : Option Addr) (l : List Ce) (hl : l.length = n) (hn : n ≤ 100) (hsh : ∀ x ∈ l, x.text.size ≤ 20) (w : World) (hO : OwnS ceE 32 w base (.slice a n c) l) :
    Calls Tryz.prog 22 #[.slice a n c] w fun e w' => e = .returned (.string (textsF l ⟨#[]⟩)) ∧ w = w' := by
  have HO := Lib.hid hO
  have HSH := Lib.hid hsh
  clear hO hsh
  go_enter Tryz.func22, Tryz.ntmps22
  go_upto_block 0 with (fail)
  go_wp2_with (fail)
  go_loopw [3, 4] (fun u3 u4 wx => ∃ (k : Nat) (acc : ByteArray), k ≤ n ∧ u4 = .int .i64 k ∧ u3 = .string acc ∧ acc.size ≤ 20 * k ∧ textsF l ⟨#[]⟩ = textsF (l.drop k) acc ∧ wx = w) (fun _ u4 _ => n - (intOf u4).toNat)
  case atStart => exact ⟨0, ⟨#[]⟩, Nat.zero_le _, rfl, rfl, Nat.le_refl _, by rw [List.drop_zero], rfl⟩
  case round =>
    obtain ⟨k, acc, hk, rfl, rfl, hac, htx, rfl⟩ := hrel
    have HTX := Lib.hid htx
    clear htx
    by_cases hlt : k < n
    · obtain ⟨x, hx⟩ : ∃ x, l[k]? = some x := ⟨_, List.getElem?_eq_getElem (by omega)⟩
      have hxs := HSH.out x (List.mem_of_getElem? hx)
      have hds : l.drop k = x :: l.drop (k + 1) := dropR_cons hx
      obtain ⟨G, eG, _, _, hc, _⟩ := (show OwnS ceE 32 wr base (.slice a l.length c) l by rw [hl]; exact HO.out).at k x hx
      subst eG
      have y0 : wr.cell? ⟨G, k * 6, none⟩ = some (.string x.text) := hc 0 _ rfl
      have hkn : (k : Int) < (n : Int) := by omega
      have hwk : IntKind.i64.wrap ((k : Int) + 1) = (k : Int) + 1 := by rw [IntKind.wrap_i64]; omega
      have htx2 : textsF l ⟨#[]⟩ = textsF (l.drop (k + 1)) (acc ++ if x.text.size = 0 then ⟨#[46]⟩ else x.text) := by rw [HTX.out, hds, textsF]
      have HTX2 := Lib.hid htx2
      clear hc htx2 hds hx
      by_cases h0 : x.text.size = 0
      · have hx0 : x.text = ⟨#[]⟩ := ByteArray.ext (Array.eq_empty_of_size_eq_zero h0)
        rw [if_pos h0] at HTX2
        rw [hx0] at y0
        go_wp2_with (fail)
        go_roundw
        case rel => exact ⟨k + 1, acc ++ ⟨#[46]⟩, by omega, by go_num, rfl, by rw [ByteArray.size_append]; show acc.size + 1 ≤ _; omega, HTX2.out, trivial⟩
        case measure => simp [intOf]; omega
      · rw [if_neg h0] at HTX2
        have hem := ne_isEmpty x.text h0
        have hem2 : (x.text.toList == (⟨#[]⟩ : ByteArray).toList) = false := by rw [bytes_beq]; exact decide_eq_false (fun h => h0 (by rw [h]; rfl))
        go_wp2_with (fail)
        go_roundw
        case rel => exact ⟨k + 1, acc ++ x.text, by omega, by go_num, rfl, by rw [ByteArray.size_append]; omega, HTX2.out, trivial⟩
        case measure => simp [intOf]; omega
    · obtain rfl : k = n := by omega
      have hfin : textsF l ⟨#[]⟩ = acc := by rw [HTX.out, List.drop_eq_nil_of_le (by omega)]; rfl
      have HFIN := Lib.hid hfin
      clear hfin
      go_wp2_with (fail)
      go_ret
      exact ⟨by rw [HFIN.out]; rfl, rfl⟩
end
section
set_option linter.unusedVariables false
set_option linter.unusedSimpArgs false
open Go.RowKit Go.Proofs
section
variable {P : Program} {ops : Array Oper} {Q : Exit → Act → World → Prop} {md : Region.Mode} {S : World → Prop}
def segHG (P : Program) (ops : Array Oper) (S : World → Prop) (Q : Exit → Act → World → Prop) : List (List Nat × Nat) → List Nat → Act → World → Prop
  | [], z, a, w => wpQuiet P ops (fun w' => ∃ p : WIn S, w' = p.w) (fun a' => Q .normal a' w) (opsAt ops z) a
  | x :: t, z, a, w => wpQuiet P ops (fun w' => ∃ p : WIn S, w' = p.w) (fun a' => (∀ o, ops[x.2]? = some o → Region.wanted o (yielded ops a'.tmps) = true) ∧ ∀ K : Act → World → Prop, (∀ a w, S w → segHG P ops S Q t z a w → K a w) → wpList P ops (Exit.then K Q) (opsAt ops [x.2]) a' w) (opsAt ops x.1) a
def segG (md : Region.Mode) (ops : Array Oper) : List (List Nat × Nat) → List Nat → Array Bool → Bool
  | [], z, l => headP md ops z l && (Region.ready md ops (setL z l)).isEmpty
  | x :: t, z, l => headP md ops x.1 l && decide (Region.ready md ops (setL x.1 l) = [x.2]) && (ops[x.2]?).isSome && segG md ops t z ((setL x.1 l).setIfInBounds x.2 true)
def cntG (ops : Array Oper) : List (List Nat × Nat) → List Nat → Nat
  | [], z => (opsAt ops z).length
  | x :: t, z => (opsAt ops x.1).length + (cntG ops t z + 1)
theorem seg_walkG (hs : Region.noSelect ops = true) (hQ : ∀ c a a' w, Q (.panic c) a w → Q (.panic c) a' w) :
    ∀ (t : List (List Nat × Nat)) (z : List Nat) (li : Array Bool) (a : Act) (w : World), segG md ops t z li = true → S w → segHG P ops S Q t z a w → wpAnyH P md ops Q S (cntG ops t z) li a w
  | [], z, li, a, w, hB, hS, h => by
    simp only [segG, Bool.and_eq_true] at hB
    unfold segHG at h
    have := head_walkP (fuel := 0) hs hQ hS (opsAt ops z) z li a (headP_ops z li hB.1) hB.1 h (fun a' ha => wpAnyH_done (by simpa using hB.2) ha 0)
    simpa [cntG] using this
  | x :: t, z, li, a, w, hB, hS, h => by
    simp only [segG, Bool.and_eq_true, decide_eq_true_eq] at hB
    obtain ⟨⟨⟨hB1, hr⟩, hl⟩, hB2⟩ := hB
    unfold segHG at h
    unfold cntG
    cases hok : ops[x.2]? with
    | none => rw [hok] at hl; cases hl
    | some o =>
      have hd : opsAt ops [x.2] = [o] := by unfold opsAt; simp [hok]
      refine head_walkP hs hQ hS (opsAt ops x.1) x.1 li a (headP_ops x.1 li hB1) hB1 h (fun a' ha => ?_)
      rw [hd] at ha
      exact loud_walk hok hr hS (ha.1 o hok) ha.2 (fun a2 w2 hS2 h2 => seg_walkG hs hQ t z _ a2 w2 hB2 hS2 h2)
/-- a drawn region, its operations taken in the caller's order: heads (what only reads, the loud one), a last head -/
theorem wp_region_segG {id : Nat} {a : Act} {w : World} {l : List Oper} (S : World → Prop) (t : List (List Nat × Nat)) (z : List Nat) (hm : P.follows .mixedOrders = true)
    (hB : (Region.noSelect l.toArray && segG .any l.toArray t z (Array.replicate l.length false) && decide (cntG l.toArray t z = l.length)) = true)
    (hS : S w.drew) (h : segHG P l.toArray S (NoPanic Q) t z a w.drew) : (Code.region id l.toArray true).wp P Q a w := by
  simp only [Bool.and_eq_true, decide_eq_true_eq] at hB
  refine wp_region_noPanic (wp_region_any hm (wpAny_of_held _ _ _ _ (?_ : wpAnyH P .any l.toArray (NoPanic Q) S _ _ a w.drew)))
  have := seg_walkG (md := .any) hB.1.1 (fun _ _ _ _ h => h) t z _ a w.drew hB.1.2 hS h
  rw [hB.2] at this
  simpa using this
end
end
section
set_option linter.unusedVariables false
set_option linter.unusedSimpArgs false
open Go.RowKit Go.Proofs Go.Shelf
attribute [local go_sem] Oper.semAt_some

/-- what stands while alive looks: the tables, the look, the row -/
structure AlS (w : World) (A P : Nat) (W : World) : Prop where
  bel : Below w.heap.size w W
  lk : W.heap[A]? = some (.cells #[.int .i64 0, .bool false, .int .i8 0, .bool false, .bool false] 26 (0, 0))
  rw : W.heap[P]? = some (.cells #[.int .i64 0, .int .i64 6, .int .u8 0, .int .i64 99, .int .i8 0] 24 (0, 0))
theorem AlS.below {w W W' : World} {A P : Nat} (h : AlS w A P W) (hb : Below W.heap.size W W') : AlS w A P W' :=
  ⟨h.bel.trans (hb.mono h.bel.size), (hb.block _ (Array.getElem?_eq_some_iff.1 h.lk).1).trans h.lk, (hb.block _ (Array.getElem?_eq_some_iff.1 h.rw).1).trans h.rw⟩
theorem AlS.drew {w W : World} {A P : Nat} (h : AlS w A P W) : AlS w A P W.drew := ⟨h.bel.drew, h.lk, h.rw⟩
def AlC (A P : Nat) (W : World) : Prop := W.cell? ⟨A, 0, none⟩ = some (.int .i64 0) ∧ W.cell? ⟨A, 1, none⟩ = some (.bool false) ∧ W.cell? ⟨A, 2, none⟩ = some (.int .i8 0) ∧ W.cell? ⟨A, 3, none⟩ = some (.bool false) ∧ W.cell? ⟨A, 4, none⟩ = some (.bool false) ∧
  W.cell? ⟨P, 0, none⟩ = some (.int .i64 0) ∧ W.cell? ⟨P, 1, none⟩ = some (.int .i64 6) ∧ W.cell? ⟨P, 2, none⟩ = some (.int .u8 0) ∧ W.cell? ⟨P, 3, none⟩ = some (.int .i64 99) ∧ W.cell? ⟨P, 4, none⟩ = some (.int .i8 0)
theorem AlS.cells {w W : World} {A P : Nat} (h : AlS w A P W) : AlC A P W := by
  have h1 := h.lk
  have h2 := h.rw
  refine ⟨?_, ?_, ?_, ?_, ?_, ?_, ?_, ?_, ?_, ?_⟩ <;> simp [World.cell?, h1, h2]
def qMix : List St := [⟨0, false, 0⟩, ⟨1, true, 1⟩, ⟨5, true, 1⟩, ⟨3, false, 2⟩, ⟨1, false, 3⟩, ⟨5, false, 3⟩, ⟨6, false, 4⟩]
theorem ca_f0 (x y z : Value) (w : World) : Sem.run Tryz.prog (Instr.field 49 (.agg #[x, y, z]) 0) w = .ok x w := by kernel_rfl
theorem mixStops (w : World) (hT : T8 w) (hD : DB w) : Calls Tryz.prog 18 #[.string ⟨#[97, 215, 144, 215, 145, 98]⟩, .agg #[.int .i64 0, .int .i64 6, .int .u8 0, .int .i64 99, .int .i8 0], .agg #[.int .i64 0, .bool false, .int .i8 0, .bool false, .bool false]] w fun e w' => ∃ a c, e = .returned (.slice a 7 c) ∧ OwnS caE 49 w' w.heap.size (.slice a 7 c) qMix ∧ Below w.heap.size w w' := by
  have h := Stops_any sMix (by decide) 0 6 0 99 0 0 0 false false false w hT hD (lvB_of mix_lv) mix_lt mix_pos (smallB_of mix_small)
  rw [show stopsI (layI sMix 0 0 false false false 0 6 99) 0 = qMix from mix_stops] at h
  exact h
theorem mixCells (w : World) (hT : T8 w) (hD : DB w) : Calls Tryz.prog 12 #[.string ⟨#[97, 215, 144, 215, 145, 98]⟩, .agg #[.int .i64 0, .int .i64 6, .int .u8 0, .int .i64 99, .int .i8 0], .agg #[.int .i64 0, .bool false, .int .i8 0, .bool false, .bool false]] w fun e w' => ∃ a c, e = .returned (.slice a 4 c) ∧ OwnS ceE 32 w' w.heap.size (.slice a 4 c) (cellsI rMix) ∧ Below w.heap.size w w' := by
  have h := Cells_any sMix (by decide) 0 6 0 99 0 0 0 false false false w hT hD (lvB_of mix_lv) (goodB_of mix_good)
  rw [show (cellsI (layI sMix 0 0 false false false 0 6 99)).length = 4 from mix_len] at h
  exact h
set_option maxRecDepth 100000 in
theorem wideCells (w : World) (hT : T8 w) (hD : DB w) : Calls Tryz.prog 12 #[.string ⟨#[97, 228, 184, 150, 255]⟩, .agg #[.int .i64 0, .int .i64 5, .int .u8 0, .int .i64 9, .int .i8 0], .agg #[.int .i64 0, .bool false, .int .i8 0, .bool false, .bool false]] w fun e w' => ∃ a c, e = .returned (.slice a 7 c) ∧ OwnS ceE 32 w' w.heap.size (.slice a 7 c) (cellsI rWide) ∧ Below w.heap.size w w' := by
  have h := Cells_any sWide (by decide) 0 5 0 9 0 0 0 false false false w hT hD (lvB_of wide_lv) (goodB_of wide_good)
  rw [show (cellsI (layI sWide 0 0 false false false 0 5 9)).length = 7 from wide_len] at h
  exact h
theorem mixTexts (base c : Nat) (a : Option Addr) (w : World) (hO : OwnS ceE 32 w base (.slice a 4 c) (cellsI rMix)) : Calls Tryz.prog 22 #[.slice a 4 c] w fun e w' => e = .returned (.string ⟨#[97, 215, 145, 215, 144, 98]⟩) ∧ w = w' := by
  have h := texts_any base 4 c a (cellsI rMix) mix_len (by decide) (fun x hx => by have := List.all_eq_true.1 mix_short x hx; simpa using this) w hO
  rw [mix_texts] at h
  exact h
theorem wideTexts (base c : Nat) (a : Option Addr) (w : World) (hO : OwnS ceE 32 w base (.slice a 7 c) (cellsI rWide)) : Calls Tryz.prog 22 #[.slice a 7 c] w fun e w' => e = .returned (.string ⟨#[97, 228, 184, 150, 46, 60, 102, 102, 62]⟩) ∧ w = w' := by
  have h := texts_any base 7 c a (cellsI rWide) wide_len (by decide) (fun x hx => by have := List.all_eq_true.1 wide_short x hx; simpa using this) w hO
  rw [wide_texts] at h
  exact h
theorem mixPlaceF (w : World) (hT : T8 w) (hD : DB w) : Calls Tryz.prog 20 #[.string ⟨#[97, 215, 144, 215, 145, 98]⟩, .agg #[.int .i64 0, .int .i64 6, .int .u8 0, .int .i64 99, .int .i8 0], .agg #[.int .i64 0, .bool false, .int .i8 0, .bool false, .bool false], .agg #[.int .i64 1, .bool false, .int .i64 0]] w fun e w' => e = .returned (.int .i64 3) ∧ Below w.heap.size w w' := by
  have h := Place_any sMix (by decide) 0 6 0 99 0 0 0 false false false 1 0 false w hT hD (lvB_of mix_lv)
  rw [show placeI (layI sMix 0 0 false false false 0 6 99) 1 false = 3 from mix_place.1] at h
  exact h
theorem mixPlaceT (w : World) (hT : T8 w) (hD : DB w) : Calls Tryz.prog 20 #[.string ⟨#[97, 215, 144, 215, 145, 98]⟩, .agg #[.int .i64 0, .int .i64 6, .int .u8 0, .int .i64 99, .int .i8 0], .agg #[.int .i64 0, .bool false, .int .i8 0, .bool false, .bool false], .agg #[.int .i64 1, .bool true, .int .i64 0]] w fun e w' => e = .returned (.int .i64 1) ∧ Below w.heap.size w w' := by
  have h := Place_any sMix (by decide) 0 6 0 99 0 0 0 false false false 1 0 true w hT hD (lvB_of mix_lv)
  rw [show placeI (layI sMix 0 0 false false false 0 6 99) 1 true = 1 from mix_place.2] at h
  exact h
theorem mixHit (w : World) (hT : T8 w) (hD : DB w) : Calls Tryz.prog 19 #[.string ⟨#[97, 215, 144, 215, 145, 98]⟩, .agg #[.int .i64 0, .int .i64 6, .int .u8 0, .int .i64 99, .int .i8 0], .agg #[.int .i64 0, .bool false, .int .i8 0, .bool false, .bool false], .int .i64 2] w fun e w' => ∃ k, e = .returned (.agg #[.int .i64 3, .bool k, .int .i64 (-1)]) ∧ Below w.heap.size w w' := by
  have h := Hit_any sMix (by decide) 0 6 0 99 0 0 0 2 false false false w hT hD (lvB_of mix_lv) mix_lt mix_pos (smallB_of mix_small) (smallB_of mix_small2)
  rw [show (hitI (layI sMix 0 0 false false false 0 6 99) 0 2).a = 3 from mix_hit] at h
  exact h.mono fun e w' ⟨h1, h2⟩ => ⟨_, h1, h2⟩
set_option maxRecDepth 100000 in
set_option maxHeartbeats 4000000 in
theorem alive_any (w : World) (hT : T8 w) (hD : DB w) :
    Calls Tryz.prog 14 #[] w fun e w' => e = .returned (.bool true) ∧ Below w.heap.size w w' := by
  have HWH : Hid (∀ W, Calls Tryz.prog 15 #[.string ⟨#[97, 215, 144, 215, 145, 98]⟩, .int .i64 99, .int .i8 0] W fun e w' => e = .returned (.agg #[.int .i64 0, .int .i64 6, .int .u8 0, .int .i64 99, .int .i8 0]) ∧ Below W.heap.size W w') := Lib.hid fun W => whole_any sMix 99 0 W
  have HTD : Hid (∀ W, Below w.heap.size w W → T8 W ∧ DB W) := Lib.hid fun W h => ⟨hT.below rfl h, hD.below h⟩
  clear hT hD
  go_enter Tryz.func14, Tryz.ntmps14
  go_upto_region 2 with (fail)
  have hb1 : Below w.heap.size w (w.alloc (.cells #[.int .i64 0, .bool false, .int .i8 0, .bool false, .bool false] 26)) := (Below.refl _ _).alloc (Nat.le_refl _) _
  have hx1 := World.alloc_heap_new w (.cells #[.int .i64 0, .bool false, .int .i8 0, .bool false, .bool false] 26)
  generalize w.alloc (.cells #[.int .i64 0, .bool false, .int .i8 0, .bool false, .bool false] 26) = W1 at hb1 hx1 ⊢
  obtain ⟨A, hA⟩ : ∃ A, w.heap.size = A := ⟨_, rfl⟩
  have HB1 := Lib.hid hb1
  rw [hA] at hx1 ⊢
  have HX1 := Lib.hid hx1
  have hA1 : A < W1.heap.size := (Array.getElem?_eq_some_iff.1 hx1).1
  clear hb1 hx1
  go_upto_region 3 with (go_at_call 15; refine (HWH.out _).mono ?_; rintro e w2 ⟨rfl, hb2⟩)
  have hA3 : AlS w A w2.heap.size (w2.alloc (.cells #[.int .i64 0, .int .i64 6, .int .u8 0, .int .i64 99, .int .i8 0] 24)) := by
    have hba := (Below.refl w2.heap.size w2).alloc (Nat.le_refl _) (.cells #[.int .i64 0, .int .i64 6, .int .u8 0, .int .i64 99, .int .i8 0] 24)
    have h12 := HB1.out.trans (hb2.mono HB1.out.size)
    exact ⟨h12.trans (hba.mono h12.size), (hba.block A (Nat.lt_of_lt_of_le hA1 hb2.size)).trans ((hb2.block A hA1).trans HX1.out), World.alloc_heap_new w2 _⟩
  generalize w2.alloc (.cells #[.int .i64 0, .int .i64 6, .int .u8 0, .int .i64 99, .int .i8 0] 24) = W3 at hA3 ⊢
  obtain ⟨P, hP⟩ : ∃ P, w2.heap.size = P := ⟨_, rfl⟩
  rw [hP] at hA3 ⊢
  clear hb2
  have HST : Hid (∀ W, AlS w A P W → Calls Tryz.prog 18 #[.string ⟨#[97, 215, 144, 215, 145, 98]⟩, .agg #[.int .i64 0, .int .i64 6, .int .u8 0, .int .i64 99, .int .i8 0], .agg #[.int .i64 0, .bool false, .int .i8 0, .bool false, .bool false]] W fun e w' => ∃ a c, e = .returned (.slice a 7 c) ∧ OwnS caE 49 w' W.heap.size (.slice a 7 c) qMix ∧ AlS w A P w') :=
    Lib.hid fun W h => (mixStops W (HTD.out W h.bel).1 (HTD.out W h.bel).2).mono fun e w' ⟨a, c, h1, h2, h3⟩ => ⟨a, c, h1, h2, h.below h3⟩
  have HCE : Hid (∀ W, AlS w A P W → Calls Tryz.prog 12 #[.string ⟨#[97, 215, 144, 215, 145, 98]⟩, .agg #[.int .i64 0, .int .i64 6, .int .u8 0, .int .i64 99, .int .i8 0], .agg #[.int .i64 0, .bool false, .int .i8 0, .bool false, .bool false]] W fun e w' => ∃ a c, e = .returned (.slice a 4 c) ∧ OwnS ceE 32 w' W.heap.size (.slice a 4 c) (cellsI rMix) ∧ AlS w A P w' ∧ Below W.heap.size W w') :=
    Lib.hid fun W h => (mixCells W (HTD.out W h.bel).1 (HTD.out W h.bel).2).mono fun e w' ⟨a, c, h1, h2, h3⟩ => ⟨a, c, h1, h2, h.below h3, h3⟩
  have HCW : Hid (∀ W, AlS w A P W → Calls Tryz.prog 12 #[.string ⟨#[97, 228, 184, 150, 255]⟩, .agg #[.int .i64 0, .int .i64 5, .int .u8 0, .int .i64 9, .int .i8 0], .agg #[.int .i64 0, .bool false, .int .i8 0, .bool false, .bool false]] W fun e w' => ∃ a c, e = .returned (.slice a 7 c) ∧ OwnS ceE 32 w' W.heap.size (.slice a 7 c) (cellsI rWide) ∧ AlS w A P w') :=
    Lib.hid fun W h => (wideCells W (HTD.out W h.bel).1 (HTD.out W h.bel).2).mono fun e w' ⟨a, c, h1, h2, h3⟩ => ⟨a, c, h1, h2, h.below h3⟩
  have HPF : Hid (∀ W, AlS w A P W → Calls Tryz.prog 20 #[.string ⟨#[97, 215, 144, 215, 145, 98]⟩, .agg #[.int .i64 0, .int .i64 6, .int .u8 0, .int .i64 99, .int .i8 0], .agg #[.int .i64 0, .bool false, .int .i8 0, .bool false, .bool false], .agg #[.int .i64 1, .bool false, .int .i64 0]] W fun e w' => e = .returned (.int .i64 3) ∧ AlS w A P w' ∧ Below W.heap.size W w') :=
    Lib.hid fun W h => (mixPlaceF W (HTD.out W h.bel).1 (HTD.out W h.bel).2).mono fun e w' ⟨h1, h2⟩ => ⟨h1, h.below h2, h2⟩
  have HPT : Hid (∀ W, AlS w A P W → Calls Tryz.prog 20 #[.string ⟨#[97, 215, 144, 215, 145, 98]⟩, .agg #[.int .i64 0, .int .i64 6, .int .u8 0, .int .i64 99, .int .i8 0], .agg #[.int .i64 0, .bool false, .int .i8 0, .bool false, .bool false], .agg #[.int .i64 1, .bool true, .int .i64 0]] W fun e w' => e = .returned (.int .i64 1) ∧ AlS w A P w' ∧ Below W.heap.size W w') :=
    Lib.hid fun W h => (mixPlaceT W (HTD.out W h.bel).1 (HTD.out W h.bel).2).mono fun e w' ⟨h1, h2⟩ => ⟨h1, h.below h2, h2⟩
  have HHI : Hid (∀ W, AlS w A P W → Calls Tryz.prog 19 #[.string ⟨#[97, 215, 144, 215, 145, 98]⟩, .agg #[.int .i64 0, .int .i64 6, .int .u8 0, .int .i64 99, .int .i8 0], .agg #[.int .i64 0, .bool false, .int .i8 0, .bool false, .bool false], .int .i64 2] W fun e w' => ∃ k, e = .returned (.agg #[.int .i64 3, .bool k, .int .i64 (-1)]) ∧ AlS w A P w') :=
    Lib.hid fun W h => (mixHit W (HTD.out W h.bel).1 (HTD.out W h.bel).2).mono fun e w' ⟨k, h1, h2⟩ => ⟨k, h1, h.below h2⟩
  have HW2 : Hid (∀ W, AlS w A P W → Calls Tryz.prog 15 #[.string ⟨#[97, 228, 184, 150, 255]⟩, .int .i64 9, .int .i8 0] W fun e w' => e = .returned (.agg #[.int .i64 0, .int .i64 5, .int .u8 0, .int .i64 9, .int .i8 0]) ∧ AlS w A P w') := Lib.hid fun W h => (whole_any sWide 9 0 W).mono fun e w' ⟨h1, h2⟩ => ⟨h1, h.below h2⟩
  obtain ⟨c0, c1, c2, c3, c4, c5, c6, c7, c8, c9⟩ := hA3.cells
  go_upto_region 4 with (go_at_call 18; refine (HST.out _ hA3).mono ?_; rintro e w4 ⟨sa, sc, rfl, hO4, hA4⟩; obtain ⟨d0, d1, d2, d3, d4, d5, d6, d7, d8, d9⟩ := hA4.cells)
  clear c0 c1 c2 c3 c4 c5 c6 c7 c8 c9
  have HO4 := Lib.hid hO4
  have HA4 := Lib.hid hA4
  have hb4 : (0 : Int) ≤ 1 := by omega
  -- the stop at place 1
  obtain ⟨G, eG, _, hGl, hsc⟩ := own_cells (n := 7) (by have h := hO4; unfold OwnS at h; exact h) (by decide)
  subst eG
  have hKS : ∀ W, Below w4.heap.size w4 W → W.cell? ⟨G, 3, none⟩ = some (.int .i64 1) ∧ W.cell? ⟨G, 4, none⟩ = some (.bool true) ∧ W.cell? ⟨G, 5, none⟩ = some (.int .i64 (-1)) := fun W hb =>
    ⟨cell_bl hb hGl ((hsc 3 (by decide)).trans rfl), cell_bl hb hGl ((hsc 4 (by decide)).trans rfl), cell_bl hb hGl ((hsc 5 (by decide)).trans rfl)⟩
  have HKS := Lib.hid hKS
  clear hKS hsc hO4 HST
  have HPL : Hid (∀ (back : Bool) (W : World), (AlS w A P W ∧ Below w4.heap.size w4 W) → Calls Tryz.prog 20 #[.string ⟨#[97, 215, 144, 215, 145, 98]⟩, .agg #[.int .i64 0, .int .i64 6, .int .u8 0, .int .i64 99, .int .i8 0], .agg #[.int .i64 0, .bool false, .int .i8 0, .bool false, .bool false], .agg #[.int .i64 1, .bool back, .int .i64 0]] W fun e w' => e = .returned (.int .i64 (if back = true then 1 else 3)) ∧ AlS w A P w' ∧ Below w4.heap.size w4 w') := Lib.hid fun back W h => by
    cases back
    · exact (HPF.out W h.1).mono fun e w' ⟨h1, h2, h3⟩ => ⟨by rw [h1]; rfl, h2, h.2.trans (h3.mono h.2.size)⟩
    · exact (HPT.out W h.1).mono fun e w' ⟨h1, h2, h3⟩ => ⟨by rw [h1]; rfl, h2, h.2.trans (h3.mono h.2.size)⟩
  clear HPF HPT
  go_upto_region 5 with (first
    | (go_at_call 12; refine (HCE.out _ HA4.out).mono ?_; rintro e w5 ⟨a5, c5', rfl, hO5, hA5, hb5⟩; have hK5 : AlS w A P w5 ∧ Below w4.heap.size w4 w5 := ⟨hA5, hb5⟩; have HTX := Lib.hid (mixTexts _ _ _ _ hO5); obtain ⟨p0, p1, p2, p3, p4, p5, p6, p7, p8, p9⟩ := hA5.cells)
    | (go_at_call 22; refine HTX.out.mono ?_; rintro e w6 ⟨rfl, rfl⟩)
    | (go_at_call 20; refine (HPL.out _ _ (by assumption)).mono ?_; rintro e w7 ⟨rfl, hK7⟩; obtain ⟨q0, q1, q2, q3, q4, q5, q6, q7, q8, q9⟩ := hK7.1.cells; obtain ⟨s3, s4, s5⟩ := HKS.out w7 hK7.2))
  have hA7 := hK7.1
  have HA7 := Lib.hid hA7
  clear d0 d1 d2 d3 d4 d5 d6 d7 d8 d9 HKS HPL HCE HTX hA5 hK5 hK7 hO5 s3 s4 s5
  obtain ⟨S, hSi, hSo⟩ : ∃ S : World → Prop, (∀ W : World, AlS w A P W → S W) ∧ (∀ W : World, S W → AlS w A P W) := ⟨fun W => AlS w A P W, fun _ h => h, fun _ h => h⟩
  have HSi := Lib.hid hSi
  have hne' : Nonempty (WIn S) := ⟨⟨_, hSi _ hA7⟩⟩
  have c0 : ∀ q : WIn S, q.w.cell? ⟨A, 0, none⟩ = some (.int .i64 0) := fun q => (hSo _ q.h).cells.1
  have c1 : ∀ q : WIn S, q.w.cell? ⟨A, 1, none⟩ = some (.bool false) := fun q => (hSo _ q.h).cells.2.1
  have c2 : ∀ q : WIn S, q.w.cell? ⟨A, 2, none⟩ = some (.int .i8 0) := fun q => (hSo _ q.h).cells.2.2.1
  have c3 : ∀ q : WIn S, q.w.cell? ⟨A, 3, none⟩ = some (.bool false) := fun q => (hSo _ q.h).cells.2.2.2.1
  have c4 : ∀ q : WIn S, q.w.cell? ⟨A, 4, none⟩ = some (.bool false) := fun q => (hSo _ q.h).cells.2.2.2.2.1
  have c5 : ∀ q : WIn S, q.w.cell? ⟨P, 0, none⟩ = some (.int .i64 0) := fun q => (hSo _ q.h).cells.2.2.2.2.2.1
  have c6 : ∀ q : WIn S, q.w.cell? ⟨P, 1, none⟩ = some (.int .i64 6) := fun q => (hSo _ q.h).cells.2.2.2.2.2.2.1
  have c7 : ∀ q : WIn S, q.w.cell? ⟨P, 2, none⟩ = some (.int .u8 0) := fun q => (hSo _ q.h).cells.2.2.2.2.2.2.2.1
  have c8 : ∀ q : WIn S, q.w.cell? ⟨P, 3, none⟩ = some (.int .i64 99) := fun q => (hSo _ q.h).cells.2.2.2.2.2.2.2.2.1
  have c9 : ∀ q : WIn S, q.w.cell? ⟨P, 4, none⟩ = some (.int .i8 0) := fun q => (hSo _ q.h).cells.2.2.2.2.2.2.2.2.2
  clear hSi hSo
  refine wp_region_segG S [([0, 1, 2, 3], 4), ([5, 6, 7, 8, 10], 9), ([], 11), ([], 12)] [13, 14, 15] (by kernel_rfl) (by kernel_rfl) (HSi.out _ hA7.drew) ?_
  simp only [segHG, opsAt, List.filterMap_cons, List.filterMap_nil, List.getElem?_toArray, List.getElem?_cons_zero, List.getElem?_cons_succ]
  show wpQuiet _ _ _ _ [_, _, _, _] _
  repeat (go_big_quiet_step (fail))
  refine wpQuiet_nil ?_
  have hA7d := HA7.out.drew
  refine ⟨fun o ho => by cases ho; rfl, ?_⟩
  intro K hK
  have HKK := Lib.hid hK
  clear hK
  show wpList _ _ _ [_] _ _
  go_wp2_with (go_at_call 19; refine (HHI.out _ hA7d).mono ?_; rintro e w8 ⟨k, rfl, hA8⟩)
  refine HKK.out _ _ (HSi.out _ hA8) ?_
  clear HKK hA7 hA7d HHI
  have hcf := fun (x y z : Value) (w : World) => ca_f0 x y z w
  show wpQuiet _ _ _ _ [_, _, _, _, _] _
  repeat (go_big_quiet_step (fail))
  refine wpQuiet_nil ?_
  refine ⟨fun o ho => by cases ho; rfl, ?_⟩
  intro K hK
  have HKK := Lib.hid hK
  clear hK
  show wpList _ _ _ [_] _ _
  go_wp2_with (go_at_call 15; refine (HW2.out _ hA8).mono ?_; rintro e w9 ⟨rfl, hA9⟩)
  refine HKK.out _ _ (HSi.out _ hA9) ?_
  clear HKK hA8 HW2
  show wpQuiet _ _ _ _ [] _
  refine wpQuiet_nil ?_
  refine ⟨fun o ho => by cases ho; rfl, ?_⟩
  intro K hK
  have HKK := Lib.hid hK
  clear hK
  show wpList _ _ _ [_] _ _
  go_wp2_with (go_at_call 12; refine (HCW.out _ hA9).mono ?_; rintro e w10 ⟨a, c, rfl, hO10, hA10⟩)
  refine HKK.out _ _ (HSi.out _ hA10) ?_
  clear HKK hA9 HCW
  have HTX := Lib.hid (wideTexts _ _ _ _ hO10)
  show wpQuiet _ _ _ _ [] _
  refine wpQuiet_nil ?_
  refine ⟨fun o ho => by cases ho; rfl, ?_⟩
  intro K hK
  have HKK := Lib.hid hK
  clear hK
  show wpList _ _ _ [_] _ _
  go_wp2_with (go_at_call 22; refine HTX.out.mono ?_; rintro e w11 ⟨rfl, rfl⟩)
  refine HKK.out _ _ (HSi.out _ hA10) ?_
  clear HKK HTX
  show wpQuiet _ _ _ _ [_, _, _] _
  repeat (go_big_quiet_step (fail))
  refine wpQuiet_nil ?_
  refine NoPanic.normal ?_
  clear c0 c1 c2 c3 c4 c5 c6 c7 c8 c9 hne' HSi
  go_wp2_with (fail)
  go_ret
  exact ⟨rfl, hA10.bel⟩
end
end Go.Proofs.YtlbclfmbejjneaaGreatDoor
