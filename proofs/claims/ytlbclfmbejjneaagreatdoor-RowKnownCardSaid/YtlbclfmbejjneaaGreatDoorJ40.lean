/- Part 40 of the proof (merged by a program out of the texts PlaceW, CellP): lemmas of no further condition than each states. -/
import Derived.Test.YtlbclfmbejjneaaGreatDoorJ38
namespace Go.Proofs.YtlbclfmbejjneaaGreatDoor
set_option linter.unusedVariables false
set_option linter.unusedSimpArgs false
section
open Go.RowKit Go.Proofs Go.Shelf
attribute [local go_sem] Oper.semAt_some
theorem LaidW.drewN {W : World} {b : Nat} {R : LaidR} (h : LaidW W b R) (n : Nat) : LaidW (W.drewN n) b R := by
 obtain ⟨la, lcap, va, vc, h1, h2, h3⟩ := h
 exact ⟨la, lcap, va, vc, h1, h2, h3⟩
theorem baseR_lt (s : ByteArray) (want : Int) (raw : Bool) : baseR s want raw < 256 := by
 unfold baseR
 split
 ·decide
 ·unfold visualI
  rcases baseF_bd want (((runesI s).map dirI).length + 1) ((runesI s).map dirI) with h | h <;> (unfold baseI; dsimp only; omega)
theorem layL_lv (s : ByteArray) (tab want : Int) (wideA join raw : Bool) (ra rl rw : Int) (h : ∀ p ∈ lay2 s want join raw ra rl, p.level < 256) : ∀ p ∈ layL s tab want wideA join raw ra rl rw, p.level < 256 := fun p hp => by
 obtain ⟨q, hq, e⟩ := mem_map_eq (layL_map (fun p => p.level) (fun _ _ _ => rfl) (fun _ _ _ => rfl) s tab want wideA join raw ra rl rw) hp
 rw [← e]
 exact h q hq
theorem layL_max (s : ByteArray) (tab want : Int) (wideA join raw : Bool) (ra rl rw : Int) (hs : s.size ≤ 2097152) : (layL s tab want wideA join raw ra rl rw).length ≤ 2097152 := by
 rw [layL_len, lay2_len]
 have := (found_facts s ra rl).2.2.1
 omega
theorem left_in (c : Int) (L : List Pc) (k : Nat) (p : Pc) (h : L[k]? = some p) (hc : ((p.a + p.size : Nat) : Int) ≤ c) : leftF c (L.drop k) = leftF c (L.drop (k + 1)) + 1 := by
 rw [dropR_cons h, leftF, if_pos hc]
theorem left_out (c : Int) (L : List Pc) (k : Nat) (p : Pc) (h : L[k]? = some p) (hc : ¬ ((p.a + p.size : Nat) : Int) ≤ c) : leftF c (L.drop k) = 0 := by
 rw [dropR_cons h, leftF, if_neg hc]
theorem lay_sizes (s : ByteArray) (hs : s.size ≤ 2097152) (tab want : Int) (wideA join raw : Bool) (ra rl rw : Int) : ∀ p ∈ layL s tab want wideA join raw ra rl rw, p.a + p.size ≤ 2097152 := fun p hp => by
 obtain ⟨q, hq, e⟩ := mem_map_eq (layL_map (fun p => (p.a, p.size)) (fun _ _ _ => rfl) (fun _ _ _ => rfl) s tab want wideA join raw ra rl rw) hp
 obtain ⟨j, hj⟩ := List.mem_iff_getElem?.1 hq
 have := (lay2_get s hs want join raw ra rl j q hj).1
 simp only [Prod.mk.injEq] at e
 omega
set_option maxRecDepth 100000 in
set_option maxHeartbeats 2000000 in
theorem Place_any (s : ByteArray) (hs : s.size ≤ 2097152) (ra rl lev rwd fin tab want : Int) (wideA join raw : Bool) (c cx : Int) (back : Bool) (w : World) (hT : T8 w) (hD : DB w) (hlv : ∀ p ∈ lay2 s want join raw ra rl, p.level < 256) :
 Calls Tryz.prog 20 #[.string s, rowA5 ra rl lev rwd fin, lookV tab want wideA join raw, .agg #[.int .i64 c, .bool back, .int .i64 cx]] w fun e w' =>
  e = .returned (.int .i64 (placeI (layI s tab want wideA join raw ra rl rwd) c back)) ∧ Below w.heap.size w w' := by
 have hbase := baseR_lt s want raw
 have hlvL := layL_lv s tab want wideA join raw ra rl rwd hlv
 have hnL := layL_max s tab want wideA join raw ra rl rwd hs
 have hsz := lay_sizes s hs tab want wideA join raw ra rl rwd
 have HLA := Lib.hid (fun (W : World) (h : Below w.heap.size w W) => rLay_any s hs ra rl lev rwd fin tab want wideA join raw W (hT.below rfl h) (hD.below h) hlv)
 obtain ⟨R, hR⟩ : ∃ R, layI s tab want wideA join raw ra rl rwd = R := ⟨_, rfl⟩
 obtain ⟨L, seen, fr, tt, bs, x⟩ := R
 have eL : layL s tab want wideA join raw ra rl rwd = L := congrArg LaidR.l hR
 have eb : baseR s want raw = bs := congrArg LaidR.base hR
 rw [hR] at HLA ⊢
 rw [eL] at hlvL hnL hsz
 rw [eb] at hbase
 have HLV := Lib.hid hlvL
 have HSZ := Lib.hid hsz
 clear hR eL eb hlvL hsz hlv hT hD
 go_enter Tryz.func20, Tryz.ntmps20
 unfold rowA5
 go_upto_region 1 with (fail)
 obtain ⟨h0, h1, h2, hb1, hs1⟩ := three_alloc w (.cells #[.int .i64 ra, .int .i64 rl, .int .u8 lev, .int .i64 rwd, .int .i8 fin] 24) (.cells #[.int .i64 tab, .bool wideA, .int .i8 want, .bool join, .bool raw] 26) (.cells #[.int .i64 c, .bool back, .int .i64 cx] 49)
 generalize ((w.alloc (.cells #[.int .i64 ra, .int .i64 rl, .int .u8 lev, .int .i64 rwd, .int .i8 fin] 24)).alloc (.cells #[.int .i64 tab, .bool wideA, .int .i8 want, .bool join, .bool raw] 26)).alloc (.cells #[.int .i64 c, .bool back, .int .i64 cx] 49) = W1 at h0 h1 h2 hb1 hs1 ⊢
 obtain ⟨B, hB⟩ : ∃ B, w.heap.size = B := ⟨_, rfl⟩
 have HB1 := Lib.hid hb1
 rw [hB] at h0 h1 h2 hs1 ⊢
 rw [show B + 1 + 1 = B + 2 from rfl]
 have b0 : W1.cell? ⟨B, 0, none⟩ = some (.int .i64 ra) := by simp [World.cell?, h0]
 have b1 : W1.cell? ⟨B, 1, none⟩ = some (.int .i64 rl) := by simp [World.cell?, h0]
 have b2 : W1.cell? ⟨B, 2, none⟩ = some (.int .u8 lev) := by simp [World.cell?, h0]
 have b3 : W1.cell? ⟨B, 3, none⟩ = some (.int .i64 rwd) := by simp [World.cell?, h0]
 have b4 : W1.cell? ⟨B, 4, none⟩ = some (.int .i8 fin) := by simp [World.cell?, h0]
 have l0 : W1.cell? ⟨B + 1, 0, none⟩ = some (.int .i64 tab) := by simp [World.cell?, h1]
 have l1 : W1.cell? ⟨B + 1, 1, none⟩ = some (.bool wideA) := by simp [World.cell?, h1]
 have l2 : W1.cell? ⟨B + 1, 2, none⟩ = some (.int .i8 want) := by simp [World.cell?, h1]
 have l3 : W1.cell? ⟨B + 1, 3, none⟩ = some (.bool join) := by simp [World.cell?, h1]
 have l4 : W1.cell? ⟨B + 1, 4, none⟩ = some (.bool raw) := by simp [World.cell?, h1]
 have HX2 := Lib.hid h2
 have HL1 := Lib.hid (HLA.out W1 hb1)
 clear h0 h1 h2 hb1 HLA
 unfold rowA5 at HL1
 go_upto_region 2 with (go_at_call 33; refine HL1.out.mono ?_; rintro e w2 ⟨b, rfl, hL2, hb2, hbl2⟩)
 have hx2 := (hbl2.block (B + 2) (by omega)).trans HX2.out
 have HB2 := Lib.hid (HB1.out.trans (hbl2.mono (by omega)))
 have HX := Lib.hid hx2
 have HL2 := Lib.hid hL2
 have hB2 : B + 2 < w2.heap.size := (Array.getElem?_eq_some_iff.1 hx2).1
 clear b0 b1 b2 b3 b4 l0 l1 l2 l3 l4 hx2 hL2 hbl2 HL1 HX2
 go_upto_block 0 with (fail)
 obtain ⟨n, hn⟩ : ∃ n, L.length = n := ⟨_, rfl⟩
 go_cut [10] (fun u wx => u = .int .i64 (leftF c L : Nat) ∧ LaidW wx b ⟨L, seen, fr, tt, bs, x⟩ ∧ Below w2.heap.size w2 wx)
 case first =>
  go_wp2_with (fail)
  go_loopw [10] (fun u wx => ∃ k : Nat, k ≤ n ∧ u = .int .i64 k ∧ leftF c L = k + leftF c (L.drop k) ∧ LaidW wx b ⟨L, seen, fr, tt, bs, x⟩ ∧ Below w2.heap.size w2 wx) (fun u _ => n - (intOf u).toNat)
  case atStart => exact ⟨0, Nat.zero_le _, rfl, by rw [List.drop_zero]; omega, HL2.out, Below.refl _ _⟩
  case round =>
   obtain ⟨k, hk, rfl, hlf, hLr, hbr⟩ := hrel
   obtain ⟨la, lcap, va, vc, g1, g2, g3⟩ := hLr
   dsimp only at g1 g2 g3
   have d0 := g1.cells.1
   rw [hn] at d0
   have HBR := Lib.hid hbr
   have hc0 : wr.cell? ⟨B + 2, 0, none⟩ = some (.int .i64 c) := by simp [World.cell?, (hbr.block (B + 2) hB2).trans HX.out]
   have HLR : Hid (LaidW wr b ⟨L, seen, fr, tt, bs, x⟩) := Lib.hid ⟨la, lcap, va, vc, g1, g2, g3⟩
   have HLF := Lib.hid hlf
   by_cases hlt : k < n
   ·obtain ⟨p, hp⟩ : ∃ p, L[k]? = some p := ⟨_, List.getElem?_eq_getElem (by omega)⟩
    obtain ⟨G, eG, hGl, y0, y1, _⟩ := pc_cells g2 k p hp
    subst eG
    have hps := HSZ.out p (List.mem_of_getElem? hp)
    have hws : IntKind.i64.wrap ((p.a : Int) + (p.size : Int)) = (p.a : Int) + (p.size : Int) := by rw [IntKind.wrap_i64]; omega
    have hwk : IntKind.i64.wrap ((k : Int) + 1) = (k : Int) + 1 := by rw [IntKind.wrap_i64]; omega
    have hd1 : decide ((k : Int) < (n : Int)) = true := decide_eq_true (by omega)
    have HP := Lib.hid hp
    clear g1 g2 g3 hbr hlf hp HL2
    by_cases hle : (p.a : Int) + (p.size : Int) ≤ c
    ·have hd2 : decide ((p.a : Int) + (p.size : Int) ≤ c) = true := decide_eq_true hle
     go_upto_region 3 with (fail)
     go_quiet (fail)
     go_wp2_with (fail)
     go_roundw
     case rel => exact ⟨k + 1, by omega, by go_num, by rw [HLF.out, left_in c L k p HP.out (by omega)]; omega, HLR.out.drewN _, bl_drewN HBR.out _⟩
     case measure => simp [intOf]; omega
    ·have hd2 : decide ((p.a : Int) + (p.size : Int) ≤ c) = false := decide_eq_false hle
     go_upto_region 3 with (fail)
     go_quiet (fail)
     go_wp2_with (fail)
     go_meet
     exact ⟨by rw [HLF.out, left_out c L k p HP.out (by omega)]; rfl, HLR.out.drewN _, bl_drewN HBR.out _⟩
   ·obtain rfl : k = n := by omega
    have hd1 : decide ((k : Int) < (k : Int)) = false := by simp
    have hlz : leftF c L = k := by rw [HLF.out, List.drop_eq_nil_of_le (by omega)]; rfl
    clear g1 g2 g3 hbr hlf HL2
    go_upto_region 3 with (fail)
    go_quiet (fail)
    go_wp2_with (fail)
    go_meet
    exact ⟨by rw [hlz], HLR.out.drewN _, bl_drewN HBR.out _⟩
 case rest =>
  obtain ⟨rfl, hLc, hbc⟩ := hcut
  have hxc := (hbc.block (B + 2) hB2).trans HX.out
  have hc1 : wc.cell? ⟨B + 2, 1, none⟩ = some (.bool back) := by simp [World.cell?, hxc]
  have HED := Lib.hid (rEdge_any b _ (leftF c L) back wc hLc (leftF_le c L) hbase HLV.out hnL)
  have HBC := Lib.hid (HB2.out.trans (hbc.mono HB2.out.size))
  clear hLc hbc hxc
  go_wp2_with (go_at_call 41; refine HED.out.mono ?_; rintro e w3 ⟨rfl, hb3⟩)
  go_ret
  exact ⟨rfl, HBC.out.trans (hb3.mono HBC.out.size)⟩
end
section
open Go.RowKit Go.Proofs Go.Shelf
def mapR {α : Type} (n : Nat) (f : Nat → α) : List α := (List.range n).map f
theorem mapR_len {α : Type} (n : Nat) (f : Nat → α) : (mapR n f).length = n := by unfold mapR; simp
theorem mapR_get {α : Type} (n : Nat) (f : Nat → α) (i : Nat) (h : i < n) : (mapR n f)[i]? = some (f i) := by
 unfold mapR
 rw [List.getElem?_map, List.getElem?_range h]
 rfl
theorem mapR_set {α : Type} (n : Nat) (f g : Nat → α) (i : Nat) (v : α) (h : ∀ j, j < n → g j = if j = i then v else f j) : (mapR n f).set i v = mapR n g := by
 apply List.ext_getElem?
 intro j
 rw [List.getElem?_set, mapR_len]
 by_cases hj : j < n
 ·rw [mapR_get _ _ _ hj, mapR_get _ _ _ hj, h j hj]
  by_cases e : i = j
  ·subst e
   rw [if_pos rfl, if_pos hj, if_pos rfl]
  ·rw [if_neg e, if_neg (fun h => e h.symm)]
 ·unfold mapR
  rw [List.getElem?_eq_none (by simp; omega), List.getElem?_eq_none (by simp; omega)]
  split
  ·rw [if_neg (by omega)]
  ·rfl
theorem mapR_congr {α : Type} (n : Nat) (f g : Nat → α) (h : ∀ j, j < n → f j = g j) : mapR n f = mapR n g := by
 unfold mapR
 exact List.map_congr_left fun j hj => h j (List.mem_range.1 hj)
section
variable {α : Type} (E : Enc α)
theorem made_list (x : α) (hk : 0 < E.k) : ∀ n : Nat, (madeCells (E.enc x).toArray (n * E.k)).toList = (mapR n (fun _ => x)).flatMap E.enc := by
 intro n
 apply List.ext_getElem?
 intro m
 have hlen : ((mapR n (fun _ => x)).flatMap E.enc).length = n * E.k := by
  rw [flatS_len, mapR_len]
 by_cases hm : m < n * E.k
 ·have hi : m / E.k < n := Nat.div_lt_of_lt_mul (by rw [Nat.mul_comm]; exact hm)
  have hj : m % E.k < E.k := Nat.mod_lt _ hk
  have hjl : m % E.k < (E.enc x).length := by rw [E.len]; exact hj
  have h2 := flatS_get E (mapR n fun _ => x) (m / E.k) x (mapR_get n _ _ hi) (m % E.k) _ (List.getElem?_eq_getElem hjl)
  rw [show m / E.k * E.k + m % E.k = m by rw [Nat.mul_comm]; exact Nat.div_add_mod m E.k] at h2
  rw [h2]
  unfold madeCells
  rw [Array.getElem?_toList, Array.getElem?_map, Array.getElem?_range, if_pos hm]
  simp only [Option.map_some, List.size_toArray, E.len]
  congr 1
  have : ((E.enc x).toArray)[m % E.k]! = (E.enc x)[m % E.k] := by
   rw [getElem!_pos _ _ (by simpa using hjl)]
   simp
  exact this
 ·have h1 : (madeCells (E.enc x).toArray (n * E.k)).toList[m]? = none := List.getElem?_eq_none (by rw [Array.length_toList, size_madeCells]; omega)
  have h2 : ((mapR n (fun _ => x)).flatMap E.enc)[m]? = none := List.getElem?_eq_none (by rw [hlen]; omega)
  exact h1.trans h2.symm
theorem made_own (e : Nat) (W : World) (x : α) (hk : 0 < E.k) (n : Nat) (hn : n ≤ maxLen) :
 OwnS E e (W.alloc (.cells (madeCells (E.enc x).toArray (n * E.k)) e)) W.heap.size (.slice (some ⟨W.heap.size, 0, none⟩) n n) (mapR n fun _ => x) := by
 unfold OwnS World.ownsRow
 rw [mapR_len]
 refine ⟨by rw [flatS_len, mapR_len], .inr ⟨W.heap.size, n, _, rfl, Nat.le_refl _, World.alloc_heap_new W _, Nat.le_refl _, hn, size_madeCells _ _, ?_⟩⟩
 rw [made_list E x hk n, List.take_of_length_le (by rw [flatS_len, mapR_len]; exact Nat.le_refl _)]
end
theorem bytes_beq (x y : ByteArray) : (x.toList == y.toList) = decide (x = y) := by
 rw [Bool.eq_iff_iff, beq_iff_eq, ByteArray.toList_eq, ByteArray.toList_eq, decide_eq_true_iff]
 exact ⟨fun h => ByteArray.ext (Array.toList_inj.mp h), fun h => by rw [h]⟩
def ceE : Enc Ce := ⟨fun c => [.string c.text, .int .i8 c.part, .int .i64 c.a, .int .i64 c.len, .bool c.right, .int .u16 0], 6, fun _ => rfl⟩
def ce0 : Ce := ⟨⟨#[]⟩, 0, 0, 0, false⟩
theorem Tryz.info_cell : (Tryz.prog.info? 32).map (fun i => (i.zero, i.size, i.bytes)) = some (some (.agg #[.string ⟨#[]⟩, .int .i8 0, .int .i64 0, .int .i64 0, .bool false, .int .u16 0]), 6, 48) := by kernel_rfl
end
end Go.Proofs.YtlbclfmbejjneaaGreatDoor
