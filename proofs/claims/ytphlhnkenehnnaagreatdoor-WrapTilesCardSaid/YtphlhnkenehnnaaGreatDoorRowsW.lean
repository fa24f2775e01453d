/- Contracts of scan.Runes, wrap.Rows and wrap.Count. Condition: utf8's two tables and math/bits' table stand where start-up lays them. -/
import Derived.Test.YtphlhnkenehnnaaGreatDoorRowW
import Derived.Test.YtphlhnkenehnnaaGreatDoorCnt
import Derived.Test.YtphlhnkenehnnaaGreatDoorWrapP
import Derived.Test.YtphlhnkenehnnaaGreatDoorV6
namespace Go.Proofs.YtphlhnkenehnnaaGreatDoor
set_option linter.unusedVariables false
set_option linter.unusedSimpArgs false
open Go.RowKit Go.Proofs Go.Shelf
attribute [local go_sem] Oper.semAt_some

theorem conv_str2 (d : ByteArray) (hz : d.size ≤ 2097152) :
    ∃ (C : World → Nat) (F : World → World), (∀ w, (convert 9 53 (.string d)).run Tryz.prog w = .ok (.slice (some ⟨w.heap.size, 0, none⟩) (runesI d).length (C w)) (F w)) ∧
      ∀ w, Below w.heap.size w (F w) ∧ Rd .i32 (F w) (some ⟨w.heap.size, 0, none⟩) (runesI d) ∧ (runesI d).length ≤ C w ∧ C w ≤ 9223372036854775807 := by
  have hs : Conv.runesFrom d d.size 0 #[] = ((runesI d).map (Value.int .i32)).toArray := by
    rw [runes_conv]; unfold runesI; simp
  have hsz : (Conv.runesFrom d d.size 0 #[]).size = (runesI d).length := by rw [hs]; simp
  have hle := runesF_len d d.size 0
  refine ⟨fun w => grownCap w (runesI d).length 0 21, fun w => w.drew.alloc (.cells (Conv.runesFrom d d.size 0 #[] ++ Array.replicate (grownCap w (runesI d).length 0 21 - (runesI d).length) (.int .i32 0)) 21), fun w => ?_, fun w => ⟨?_, ?_, ?_, ?_⟩⟩
  · have := run_runes_of_string (P := Tryz.prog) w 9 53 21 d Tryz.underlying9 Tryz.underlying53 Tryz.underlying21 (by rw [hsz]; unfold runesI; omega)
    rw [this, hsz]
  · exact (Below.refl _ _).drew.alloc (Nat.le_refl _) _
  · exact runes_rd w d 21 _
  · exact grownCap_ge w (runesI d).length 0 21
  · have h1 : (runesI d).length ≤ d.size := by unfold runesI; omega
    have h2 := grownCap_le_maxLen w (runesI d).length 0 21 (by unfold maxLen; omega)
    unfold maxLen at h2
    show grownCap w (runesI d).length 0 21 ≤ 9223372036854775807
    omega
theorem runesI_len (d : ByteArray) : (runesI d).length ≤ d.size := by
  have hle := runesF_len d d.size 0
  unfold runesI; omega
theorem Runes_any (d : ByteArray) (hz : d.size ≤ 2097152) (w : World) :
    Calls Tryz.prog 30 #[.string d] w fun e w' => ∃ a c, e = .returned (.slice a (runesI d).length c) ∧ Rd .i32 w' a (runesI d) ∧ (runesI d).length ≤ c ∧ c ≤ 9223372036854775807 ∧ Below w.heap.size w w' := by
  obtain ⟨C, F, hcv, hF⟩ := conv_str2 d hz
  go_enter Tryz.func30, Tryz.ntmps30
  go_wp2_with (fail)
  go_ret
  exact ⟨_, _, rfl, (hF w).2.1, (hF w).2.2.1, (hF w).2.2.2, (hF w).1⟩
theorem Tryz.info_row : (Tryz.prog.info? 30).map (fun i => (i.zero, i.size, i.bytes)) = some (some (.agg #[.int .i64 0, .int .i64 0, .int .u8 0, .int .i64 0, .int .i8 0]), 5, 40) := by kernel_rfl
/-- a row of rows of the call's own -/
def OwnR (W : World) (base : Nat) (v : Value) (l : List RowV) : Prop := W.ownsRow base 30 5 v l.length (l.flatMap rcell)
theorem OwnR.nil (W : World) (base : Nat) : OwnR W base (.slice none 0 0) [] := ⟨rfl, .inl ⟨rfl, rfl⟩⟩
theorem OwnR.rd {W : World} {base cap : Nat} {pa : Option Addr} {l : List RowV} (h : OwnR W base (.slice pa l.length cap) l) : RdR W pa l := by
  cases l with
  | nil => exact .inl rfl
  | cons x t =>
    obtain ⟨G, h1, _, h2, h3⟩ := own_cells h (Nat.succ_pos _)
    refine .inr ⟨G, 0, h1, h2, fun i r hi k v hv => ?_⟩
    have hk : k < 5 := (List.getElem?_eq_some_iff.1 hv).1
    have hil := (List.getElem?_eq_some_iff.1 hi).1
    rw [Nat.zero_add]
    exact (h3 (i * 5 + k) (by omega)).trans (flat5_get _ i r hi k v hv)
theorem far_kept {W W' : World} {b t f1 f2 base e size n : Nat} {x : Array Value} {v : Value} {xs : List Value} (h : W.heap[b]? = some (.cells x t (f1, f2))) (ho : W.ownsRow base e size v n xs) (ht : t ≠ e) (hg : W.grownBy W' v.ownBlock) :
    W'.heap[b]? = some (.cells x t (f1, f2)) := by
  refine (hg.block b (Array.getElem?_eq_some_iff.1 h).1 ?_).trans h
  rcases ho.2 with ⟨rfl, _⟩ | ⟨g, cap, cur, rfl, _, hgb, _⟩
  · intro e; cases e
  · intro e
    cases e
    rw [h] at hgb
    cases hgb
    exact ht rfl
theorem spot_cells {W : World} {b t : Nat} {x y z : Int} (h : W.heap[b]? = some (.cells #[.int .i64 x, .int .i64 y, .int .i64 z] t (0, 0))) :
    W.cell? ⟨b, 0, none⟩ = some (.int .i64 x) ∧ W.cell? ⟨b, 1, none⟩ = some (.int .i64 y) ∧ W.cell? ⟨b, 2, none⟩ = some (.int .i64 z) ∧ ∀ i, W.frozen? ⟨b, i, none⟩ = false :=
  ⟨by simp [World.cell?, h], by simp [World.cell?, h], by simp [World.cell?, h], fun i => by simp [World.frozen?, h]⟩
theorem rows_snoc {r : Rul} {T : ByteArray} {e : Bool} {L whole : List (Nat × Nat × Int × Int)} {f a n : Nat} {q : Nat × Nat × Int × Int} (hq : rowAt1 r T e a n = q) (h : L ++ rowsFrom r T e (f + 1) a n = whole) :
    ((q.2.2.2 = 2 ∨ q.2.2.2 = 3) → (L ++ [(a, q.1 - a, q.2.2.1, q.2.2.2)]) ++ rowsFrom r T e f q.1 q.2.1 = whole) ∧ (¬ (q.2.2.2 = 2 ∨ q.2.2.2 = 3) → L ++ [(a, q.1 - a, q.2.2.1, q.2.2.2)] = whole) := by
  rw [rowsFrom, hq] at h
  constructor
  · intro hc
    rw [if_pos hc] at h
    rw [List.append_assoc, List.singleton_append]; exact h
  · intro hc
    rw [if_neg hc] at h
    exact h
theorem flat_snoc (l : List RowV) (r : RowV) : (l ++ [r]).flatMap rcell = l.flatMap rcell ++ rcell r := by
  rw [List.flatMap_append, List.flatMap_singleton]
theorem list_new (W : World) (t : Nat) (xs : List Value) : ∀ j u, xs[j]? = some u → (W.alloc (.cells xs.toArray t)).cell? ((⟨W.heap.size, 0, none⟩ : Addr).add j) = some u := fun j u hj => by
  have h := World.cell?_alloc_mark W xs.toArray t (0, 0) j
  rw [Addr.add_lit, Nat.zero_add]
  refine h.trans ?_
  simpa using hj
theorem rows_more {W : World} {base : Nat} {v : Value} {lev : Int} {L : List (Nat × Nat × Int × Int)} {x : Nat × Nat × Int × Int} {c : Int} (hc : c = ((x.2.1 : Nat) : Int)) (h : W.ownsRow base 30 5 v (L.length + 1) ((L.map (mkRow lev)).flatMap rcell ++ [.int .i64 x.1, .int .i64 c, .int .u8 lev, .int .i64 x.2.2.1, .int .i8 x.2.2.2])) :
    OwnR W base v ((L ++ [x]).map (mkRow lev)) := by
  subst hc
  unfold OwnR
  rw [List.length_map, List.length_append, List.map_append, List.map_singleton, flat_snoc]
  exact h
theorem spot_set {W : World} {b base n : Nat} {v : Value} {xs : List Value} {x y z : Value} (h : W.heap[b]? = some (.cells #[x, y, z] 63 (0, 0))) (ho : W.ownsRow base 30 5 v n xs) (x' y' z' : Value) :
    (((W.setCell ⟨b, 0, none⟩ x').setCell ⟨b, 1, none⟩ y').setCell ⟨b, 2, none⟩ z').heap[b]? = some (.cells #[x', y', z'] 63 (0, 0)) ∧ (((W.setCell ⟨b, 0, none⟩ x').setCell ⟨b, 1, none⟩ y').setCell ⟨b, 2, none⟩ z').ownsRow base 30 5 v n xs := by
  have k1 := set_at (i := 0) h x'
  have k2 := set_at (i := 1) k1 y'
  have k3 := set_at (i := 2) k2 z'
  have o1 := row_other (i := 0) (u := x') ho (ne_row ho h (by decide))
  have o2 := row_other (i := 1) (u := y') o1 (ne_row o1 k1 (by decide))
  exact ⟨k3, row_other (i := 2) (u := z') o2 (ne_row o2 k2 (by decide))⟩
theorem own_low {W : World} {base base' : Nat} {v : Value} {l m : List RowV} (h : OwnR W base v l) (e : l = m) (hb : base' ≤ base) : OwnR W base' v m := e ▸ ownsRow_base h hb
/-- length of a slice -/
def lenOf : Value → Nat
  | .slice _ n _ => n
  | _ => 0
set_option maxRecDepth 100000 in
set_option maxHeartbeats 1000000 in
theorem Rows_any (line : ByteArray) (wd tab want : Int) (wideA join raw : Bool) (w : World) (hT : T8 w) (hD : DB w) :
    Calls Tryz.prog 10 #[.string line, .int .i64 wd, lookV tab want wideA join raw] w fun e w' =>
      ∃ pa cap, e = .returned (.slice pa (rowsI line wd tab want wideA raw).length cap) ∧ OwnR w' w.heap.size (.slice pa (rowsI line wd tab want wideA raw).length cap) (rowsI line wd tab want wideA raw) ∧ Below w.heap.size w w' := by
  obtain ⟨i5, hi5, hz5, ha5, hb5⟩ := info_parts (Tryz.info_row)
  obtain ⟨X, hX⟩ : ∃ X, rowsI line wd tab want wideA raw = X := ⟨_, rfl⟩
  rw [hX]
  unfold rowsI at hX
  have HX := Lib.hid hX
  clear hX
  have hb0 : Below w.heap.size w (w.alloc (.cells #[.int .i64 tab, .bool wideA, .int .i8 want, .bool join, .bool raw] 24)) := (Below.refl _ _).alloc (Nat.le_refl _) _
  have hx0 : (w.alloc (.cells #[.int .i64 tab, .bool wideA, .int .i8 want, .bool join, .bool raw] 24)).heap[w.heap.size]? = some (.cells #[.int .i64 tab, .bool wideA, .int .i8 want, .bool join, .bool raw] 24 (0, 0)) := World.alloc_heap_new w _
  have hT1 := hT.below rfl hb0
  have hD1 := hD.below hb0
  go_enter Tryz.func10, Tryz.ntmps10
  go_upto_region 1 with (fail)
  generalize w.alloc (.cells #[.int .i64 tab, .bool wideA, .int .i8 want, .bool join, .bool raw] 24) = W0 at hb0 hx0 hT1 hD1 ⊢
  have l0 : W0.cell? ⟨w.heap.size, 0, none⟩ = some (.int .i64 tab) := by simp [World.cell?, hx0]
  have l1 : W0.cell? ⟨w.heap.size, 1, none⟩ = some (.bool wideA) := by simp [World.cell?, hx0]
  have l2 : W0.cell? ⟨w.heap.size, 2, none⟩ = some (.int .i8 want) := by simp [World.cell?, hx0]
  have l3 : W0.cell? ⟨w.heap.size, 3, none⟩ = some (.bool join) := by simp [World.cell?, hx0]
  have l4 : W0.cell? ⟨w.heap.size, 4, none⟩ = some (.bool raw) := by simp [World.cell?, hx0]
  have hs0 : w.heap.size < W0.heap.size := (Array.getElem?_eq_some_iff.1 hx0).1
  have HB0 := Lib.hid hb0
  have HT1 := Lib.hid hT1
  have HD1 := Lib.hid hD1
  clear hb0 hx0 hT1 hD1 hT hD
  by_cases g1 : wd < 1
  · have hX := HX.out
    rw [if_pos (.inl g1)] at hX
    subst hX
    go_wp2_with (fail)
    go_ret
    exact ⟨none, 0, rfl, OwnR.nil _ _, HB0.out⟩
  by_cases g2 : wd > 1024
  · have hX := HX.out
    rw [if_pos (.inr (.inl g2))] at hX
    subst hX
    go_wp2_with (fail)
    go_ret
    exact ⟨none, 0, rfl, OwnR.nil _ _, HB0.out⟩
  by_cases g3 : (line.size : Int) > 65536
  · have hX := HX.out
    rw [if_pos (.inr (.inr (by omega)))] at hX
    subst hX
    go_wp2_with (fail)
    go_ret
    exact ⟨none, 0, rfl, OwnR.nil _ _, HB0.out⟩
  have hX := HX.out
  rw [if_neg (by rintro (h | h | h) <;> omega)] at hX
  have HX2 := Lib.hid hX
  clear hX HX
  have HC := Lib.hid (counted_any line (by omega) wd tab want wideA join raw W0 HT1.out)
  go_upto_region 4 with (go_at_call 28; refine HC.out.mono ?_; rintro e w1 ⟨F, wa, wk, rfl, hF, hfil, hrd, hb1⟩)
  have m0 := cell_bl hb1 hs0 l0
  have m2 := cell_bl hb1 hs0 l2
  have m4 := cell_bl hb1 hs0 l4
  have f0 := hfil.cells.1
  have hbel1 : Below w.heap.size w w1 := HB0.out.trans (hb1.mono (by omega))
  have hs1 : w.heap.size < w1.heap.size := Nat.lt_of_lt_of_le hs0 hb1.size
  have hT2 := HT1.out.below rfl hb1
  have hD2 := HD1.out.below hb1
  have hTz : (textOf line).size ≤ 65536 := by have := (textOf_pieces line).1; omega
  have hFlt := hfil.lt
  have HB1 := Lib.hid hbel1
  have HT2 := Lib.hid hT2
  have HD2 := Lib.hid hD2
  have HFIL := Lib.hid hfil
  have HRD := Lib.hid hrd
  clear l0 l1 l2 l3 l4 hb1 hbel1 hT2 hD2 hfil hrd HB0 HT1 HD1 HC
  obtain ⟨lev, hlev⟩ : ∃ lev, levelI (textOf line) want raw = lev := ⟨_, rfl⟩
  have HLEV := Lib.hid hlev
  have HRU : Hid (∀ (W : World), Below w1.heap.size w1 W → Calls Tryz.prog 30 #[.string (textOf line)] W fun e w' => ∃ a c, e = .returned (.slice a (runesI (textOf line)).length c) ∧ Rd .i32 w' a (runesI (textOf line)) ∧ (runesI (textOf line)).length ≤ c ∧ c ≤ 9223372036854775807 ∧ Below w1.heap.size w1 w') :=
    Lib.hid (fun W hb => (Runes_any (textOf line) (by omega) W).mono fun e w' ⟨a, c, h1, h2, h3, h4, h5⟩ => ⟨a, c, h1, h2, h3, h4, hb.trans (h5.mono hb.size)⟩)
  have HVL : Hid (∀ (a : Option Addr) (n c : Nat) (W : World), Below w1.heap.size w1 W → (runesI (textOf line)).length = n → Rd .i32 W a (runesI (textOf line)) → n ≤ c → c ≤ 9223372036854775807 →
      Calls Tryz.prog 29 #[.slice a n c, .int .i8 want] W fun e w' => ∃ la lc, e = .returned (.tuple #[.slice la n lc, .int .u8 (visualI (runesI (textOf line)) want).2]) ∧ Below w1.heap.size w1 w') :=
    Lib.hid (fun a n c W hb hl h1 h2 h3 => (VLevels_any a (runesI (textOf line)) n c want W hl h1 (by have := runesI_len (textOf line); omega) h2 h3).mono fun e w' ⟨la, lc, h1, _, _, h4⟩ => ⟨la, lc, h1, hb.trans (h4.mono hb.size)⟩)
  clear hlev
  have HK := Lib.hid (fun (W : World) (hb : Below w1.heap.size w1 W) => (⟨cell_bl hb hs1 m2, cell_bl hb hFlt f0⟩ : W.cell? ⟨w.heap.size, 2, none⟩ = some (.int .i8 want) ∧ W.cell? ⟨F, 0, none⟩ = some (.string (textOf line))))
  go_upto_if 30 with (fail)
  go_cut [8] (fun v wx => v = .int .u8 lev ∧ Below w1.heap.size w1 wx)
  case first =>
    have hlev := HLEV.out
    unfold levelI at hlev
    cases raw with
    | true =>
      rw [if_pos rfl] at hlev
      subst hlev
      clear HLEV
      go_wp2_with (fail)
      go_meet
      exact ⟨rfl, Below.refl _ _⟩
    | false =>
      rw [if_neg (by decide)] at hlev
      have HLE := Lib.hid hlev
      clear hlev HLEV
      go_wp2_with (fail)
      go_region_held3 (fun w' => w'.cell? ⟨w.heap.size, 2, none⟩ = some (.int .i8 want) ∧ w'.cell? ⟨F, 0, none⟩ = some (.string (textOf line)) ∧ Below w1.heap.size w1 w')
        ((refine (fun hh => ⟨(HK.out _ hh).1, (HK.out _ hh).2, hh⟩) ?_; repeat (first | assumption | exact Below.refl _ _ | refine Below.drew ?_)))
        (first | (go_at_call 30; refine (HRU.out _ (by repeat (first | assumption | exact Below.refl _ _ | refine Below.drew ?_))).mono ?_; rintro e w2 ⟨a, c, rfl, hr1, hr2, hr3, hr4⟩) | (go_at_call 29; refine (HVL.out _ _ _ _ (by repeat (first | assumption | exact Below.refl _ _ | refine Below.drew ?_)) rfl hr1 hr2 hr3).mono ?_; rintro e w3 ⟨la, lc, rfl, hv1⟩))
      go_wp2_with (fail)
      go_meet
      exact ⟨by rw [← HLE.out], hv1⟩
  case rest =>
    obtain ⟨rfl, hbc⟩ := hcut
    have hT3 := HT2.out.below rfl hbc
    have hD3 := HD2.out.below hbc
    have hfil3 := HFIL.out.below hbc hFlt
    have hrd3 := HRD.out.below hbc
    have hb3 := HB1.out.trans (hbc.mono (by omega))
    have hs3 : F < wc.heap.size := Nat.lt_of_lt_of_le hFlt hbc.size
    have hs4 : w.heap.size < wc.heap.size := Nat.lt_of_lt_of_le hs1 hbc.size
    have HT3 := Lib.hid hT3
    have HD3 := Lib.hid hD3
    have HFIL3 := Lib.hid hfil3
    have HRD3 := Lib.hid hrd3
    have HB3 := Lib.hid hb3
    clear hT3 hD3 hfil3 hrd3 hb3 hbc m0 m2 m4 f0 HT2 HD2 HFIL HRD HB1 HRU HVL HK
    go_upto_block 0 with (fail)
    have hbx := (Below.refl wc.heap.size wc).alloc (Nat.le_refl _) (.cells #[.int .i64 0, .int .i64 0, .int .i64 0] 63)
    have hx := World.alloc_heap_new wc (.cells #[.int .i64 0, .int .i64 0, .int .i64 0] 63)
    generalize wc.alloc (.cells #[.int .i64 0, .int .i64 0, .int .i64 0] 63) = W3 at hbx hx ⊢
    obtain ⟨whole, hwh⟩ : ∃ whole, rowsFrom (rulI line wd tab wideA raw) (textOf line) (countI line).isSome ((textOf line).size + 1) 0 0 = whole := ⟨_, rfl⟩
    have hwl : whole.length ≤ 65537 := by
      have := rowsF_len (rulI line wd tab wideA raw) (textOf line) (countI line).isSome ((textOf line).size + 1) 0 0 (Bord.zero _)
      rw [hwh] at this
      omega
    have hXw : whole.map (mkRow lev) = X := by rw [← hwh, ← HLEV.out]; exact HX2.out
    have HXW := Lib.hid hXw
    have HWH := Lib.hid hwh
    have HBX := Lib.hid hbx
    have HX3 := Lib.hid hx
    clear hXw hwh hbx hx HX2 HLEV
    go_wp2_with (fail)
    go_loopw [9, 10] (fun u9 u10 wx => ∃ (a n f b : Nat) (L : List (Nat × Nat × Int × Int)), wc.heap.size ≤ b ∧ u10 = .pointer (some ⟨b, 0, none⟩) ∧ wx.heap[b]? = some (.cells #[.int .i64 a, .int .i64 n, .int .i64 0] 63 (0, 0)) ∧ OwnR wx wc.heap.size u9 (L.map (mkRow lev)) ∧
      Bord (textOf line) a n ∧ (textOf line).size < a + f ∧ L ++ rowsFrom (rulI line wd tab wideA raw) (textOf line) (countI line).isSome f a n = whole ∧ Below wc.heap.size wc wx) (fun u9 _ _ => 65538 - lenOf u9)
    case atStart => exact ⟨0, 0, _, _, [], Nat.le_refl _, rfl, HX3.out, OwnR.nil _ _, Bord.zero _, Nat.lt_of_lt_of_le (Nat.lt_succ_self _) (Nat.le_add_left _ 0), HWH.out, HBX.out⟩
    case round =>
      obtain ⟨a, n, f, b, L, hwb, rfl, hbx, hown, hbd, hf, heq, hbel⟩ := hrel
      obtain ⟨f, rfl⟩ : ∃ g, f = g + 1 := ⟨f - 1, by have := hbd.1; omega⟩
      have hLl : L.length < 65537 := by
        have := congrArg List.length heq
        rw [List.length_append, rowsFrom, List.length_cons] at this
        omega
      have hown1 : wr.ownsRow wc.heap.size 30 5 u9 L.length ((L.map (mkRow lev)).flatMap rcell) := by
        have h := hown
        unfold OwnR at h
        rwa [List.length_map] at h
      obtain ⟨pa, cap, hpa, _, _⟩ := own_slice hown1
      subst hpa
      obtain ⟨q, hq⟩ : ∃ q, rowAt1 (rulI line wd tab wideA raw) (textOf line) (countI line).isSome a n = q := ⟨_, rfl⟩
      have hrow := row_any F a n (textOf line) wa (whereI line).length wk (countI line).isSome (rulI line wd tab wideA raw) want join wr (HT3.out.below rfl hbel) (HD3.out.below hbel) (HFIL3.out.below hbel hs3) (HRD3.out.below hbel) rfl hbd (textOf_len line) (by omega) (by show 0 ≤ wd; omega) (by show wd ≤ 1024; omega)
      rw [hq] at hrow
      obtain ⟨b1, b2, b3, b4⟩ := rowI_bord (rulI line wd tab wideA raw) (textOf line) (countI line).isSome a n hbd
      rw [hq] at b1 b2 b3 b4
      obtain ⟨s1, s2⟩ := rows_snoc hq heq
      have hbt := b1.1
      obtain ⟨qa, qn, qw, qe⟩ := q
      dsimp only at hrow b1 b2 b3 b4 s1 s2 hbt
      obtain ⟨x0, x1, x2, xf⟩ := spot_cells hbx
      have hblt := (Array.getElem?_eq_some_iff.1 hbx).1
      have hsz := hbel.size
      have HROW := Lib.hid hrow
      have HBX := Lib.hid hbx
      have HOWN := Lib.hid hown1
      have HBEL := Lib.hid hbel
      have HB1 := Lib.hid b1
      have HB33 := Lib.hid b3
      have HB4 := Lib.hid b4
      have HS1 := Lib.hid s1
      have HS2 := Lib.hid s2
      clear hrow hbx hown hown1 hbel b1 b3 b4 s1 s2 hq heq hbd HFIL3 HRD3 HT3 HD3 HX3
      go_upto_region 10 with (go_at_call 31; refine HROW.out.mono ?_; rintro e w4 ⟨rfl, hb4⟩)
      have hb5 : Below wr.heap.size wr (w4.alloc (.cells #[.int .i64 qa, .int .i64 qn, .int .i64 qw] 63)) := hb4.alloc hb4.size _
      have hy := World.alloc_heap_new w4 (.cells #[.int .i64 qa, .int .i64 qn, .int .i64 qw] 63)
      have hz4 := hb4.size
      generalize w4.alloc (.cells #[.int .i64 qa, .int .i64 qn, .int .i64 qw] 63) = W5 at hb5 hy ⊢
      have hbx5 : W5.heap[b]? = some (.cells #[.int .i64 a, .int .i64 n, .int .i64 0] 63 (0, 0)) := (hb5.block b hblt).trans HBX.out
      have hown5 := ownsRow_keep HOWN.out hb5
      have hbel5 := HBEL.out.trans (hb5.mono hsz)
      obtain ⟨z0, z1, z2, zf⟩ := spot_cells hbx5
      obtain ⟨y0, y1, y2, yf⟩ := spot_cells hy
      have hs5 := hbel5.size
      have hsub : (qa : Int) - (a : Int) = ((qa - a : Nat) : Int) := by omega
      have HSUB := Lib.hid hsub
      have HBX5 := Lib.hid hbx5
      have HY := Lib.hid hy
      have HOWN5 := Lib.hid hown5
      have HBEL5 := Lib.hid hbel5
      clear hb4 hb5 hy hbx5 hown5 hbel5 hsub x0 x1 x2 xf hblt HBX HOWN HBEL HROW hz4
      go_upto_region 11 with (at_builtin; refine wpList_append_own_at _ rfl _ _ 25 rfl wc.heap.size 30 i5 (.agg #[.int .i64 0, .int .i64 0, .int .u8 0, .int .i64 0, .int .i8 0]) 5 40 Tryz.underlying25 hi5 hz5 ha5 hb5 rfl (by decide) _ L.length _ rfl (HOWN5.out.alloc _) ⟨W5.heap.size, 0, none⟩ 1 1 [.int .i64 a, .int .i64 ((qa : Int) - a), .int .u8 lev, .int .i64 qw, .int .i8 qe] rfl rfl (list_new _ _ _) (by simp [Value.oneCell']) (by unfold maxLen; omega) (by omega) (by simp; omega) ?_; intro v' w6 ho hg _ hl)
      have hbelA := HBEL5.out.alloc hs5 (.cells #[.int .i64 a, .int .i64 ((qa : Int) - a), .int .u8 lev, .int .i64 qw, .int .i8 qe] 30)
      have hbA : (W5.alloc (.cells #[.int .i64 a, .int .i64 ((qa : Int) - a), .int .u8 lev, .int .i64 qw, .int .i8 qe] 30)).heap[b]? = some (.cells #[.int .i64 a, .int .i64 n, .int .i64 0] 63 (0, 0)) :=
        (((Below.refl W5.heap.size W5).alloc (Nat.le_refl _) _).block b (Array.getElem?_eq_some_iff.1 HBX5.out).1).trans HBX5.out
      have hyA : (W5.alloc (.cells #[.int .i64 a, .int .i64 ((qa : Int) - a), .int .u8 lev, .int .i64 qw, .int .i8 qe] 30)).heap[w4.heap.size]? = some (.cells #[.int .i64 qa, .int .i64 qn, .int .i64 qw] 63 (0, 0)) :=
        (((Below.refl W5.heap.size W5).alloc (Nat.le_refl _) _).block _ (Array.getElem?_eq_some_iff.1 HY.out).1).trans HY.out
      have hownA := HOWN5.out.alloc (.cells #[.int .i64 a, .int .i64 ((qa : Int) - a), .int .u8 lev, .int .i64 qw, .int .i8 qe] 30)
      have hb6 := far_kept hbA hownA (by decide) hg
      have hy6 := far_kept hyA hownA (by decide) hg
      have hbel6 : Below wc.heap.size wc w6 := hbelA.grown hg (by simp; omega) (fun k hk => (hownA.lt k hk).1)
      have ho6 := rows_more (x := (a, qa - a, qw, qe)) HSUB.out ho
      have hs6 := hbel6.size
      have HB6 := Lib.hid hb6
      have HBEL6 := Lib.hid hbel6
      have HO6 := Lib.hid ho6
      have HY6 := Lib.hid hy6
      clear hbelA hbA hyA hownA hb6 hy6 hbel6 ho6 ho hg hl HBX5 HY HOWN5 HBEL5 z0 z1 z2 zf y0 y1 y2 yf
      obtain ⟨z0, z1, z2, zf⟩ := spot_cells HB6.out
      obtain ⟨y0, y1, y2, yf⟩ := spot_cells HY6.out
      by_cases hc : qe = 2 ∨ qe = 3
      · have hcut := HS1.out hc
        have hlt := HB33.out hc
        have HS := Lib.hid hcut
        clear hcut HS1 HS2 HB33 HB4
        have hnext : (textOf line).size < qa + f := by omega
        rcases hc with rfl | rfl
        · go_upto_region 14 with (fail)
          obtain ⟨h7, o7⟩ := spot_set HB6.out HO6.out (.int .i64 qa) (.int .i64 qn) (.int .i64 0)
          have hb7 := ((HBEL6.out.setCell (p := ⟨b, 0, none⟩) hwb (.int .i64 qa)).setCell (p := ⟨b, 1, none⟩) hwb (.int .i64 qn)).setCell (p := ⟨b, 2, none⟩) hwb (.int .i64 0)
          generalize ((w6.setCell ⟨b, 0, none⟩ (.int .i64 qa)).setCell ⟨b, 1, none⟩ (.int .i64 qn)).setCell ⟨b, 2, none⟩ (.int .i64 0) = W7 at h7 o7 hb7 ⊢
          have HO6L := HO6
          clear z0 z1 z2 zf y0 y1 y2 yf HB6 HBEL6 HO6 HY6
          obtain ⟨z0, z1, z2, zf⟩ := spot_cells h7
          have hs7 := hb7.size
          have H7 := Lib.hid h7
          have O7 := Lib.hid o7
          have HB7 := Lib.hid hb7
          clear h7 o7 hb7
          obtain ⟨hq1, hq2⟩ := hlt
          have hll : (L ++ [(a, qa - a, qw, 2)]).length = L.length + 1 := by simp
          have HLL := Lib.hid hll
          clear hll
          go_wp2_with (fail)
          go_roundw
          case rel => exact ⟨qa, qn, f, W7.heap.size, _, hs7, rfl, World.alloc_heap_new W7 _, World.ownsRow.alloc O7.out _, HB1.out, hnext, HS.out, HB7.out.alloc hs7 _⟩
          case measure =>
            have hv : lenOf v' = L.length + 1 := by
              obtain ⟨pb, cb, e, _⟩ := own_slice HO6L.out
              rw [e, List.length_map, HLL.out]
              rfl
            rw [hv]
            show 65538 - (L.length + 1) < 65538 - L.length
            omega
        · go_upto_region 14 with (fail)
          obtain ⟨h7, o7⟩ := spot_set HB6.out HO6.out (.int .i64 qa) (.int .i64 qn) (.int .i64 0)
          have hb7 := ((HBEL6.out.setCell (p := ⟨b, 0, none⟩) hwb (.int .i64 qa)).setCell (p := ⟨b, 1, none⟩) hwb (.int .i64 qn)).setCell (p := ⟨b, 2, none⟩) hwb (.int .i64 0)
          generalize ((w6.setCell ⟨b, 0, none⟩ (.int .i64 qa)).setCell ⟨b, 1, none⟩ (.int .i64 qn)).setCell ⟨b, 2, none⟩ (.int .i64 0) = W7 at h7 o7 hb7 ⊢
          have HO6L := HO6
          clear z0 z1 z2 zf y0 y1 y2 yf HB6 HBEL6 HO6 HY6
          obtain ⟨z0, z1, z2, zf⟩ := spot_cells h7
          have hs7 := hb7.size
          have H7 := Lib.hid h7
          have O7 := Lib.hid o7
          have HB7 := Lib.hid hb7
          clear h7 o7 hb7
          obtain ⟨hq1, hq2⟩ := hlt
          have hll : (L ++ [(a, qa - a, qw, 3)]).length = L.length + 1 := by simp
          have HLL := Lib.hid hll
          clear hll
          go_wp2_with (fail)
          go_roundw
          case rel => exact ⟨qa, qn, f, W7.heap.size, _, hs7, rfl, World.alloc_heap_new W7 _, World.ownsRow.alloc O7.out _, HB1.out, hnext, HS.out, HB7.out.alloc hs7 _⟩
          case measure =>
            have hv : lenOf v' = L.length + 1 := by
              obtain ⟨pb, cb, e, _⟩ := own_slice HO6L.out
              rw [e, List.length_map, HLL.out]
              rfl
            rw [hv]
            show 65538 - (L.length + 1) < 65538 - L.length
            omega
      · obtain ⟨e1, e2⟩ := HB4.out hc
        have hX : (L ++ [(a, qa - a, qw, qe)]).map (mkRow lev) = X := by rw [HS2.out hc]; exact HXW.out
        obtain ⟨pa', cap', hv', _⟩ := own_slice HO6.out
        rw [hX] at hv'
        subst hv'
        have HXX := Lib.hid hX
        clear hX hc HS1 HS2 HB33 HB4
        have hq : qe = 0 ∨ qe = 1 := by rw [e2]; unfold lastEnd; split <;> simp
        clear e1 e2
        rcases hq with rfl | rfl
        · go_wp2_with (fail)
          go_ret
          exact ⟨pa', cap', rfl, own_low HO6.out HXX.out (by omega), HB3.out.trans (HBEL6.out.mono (by omega))⟩
        · go_wp2_with (fail)
          go_ret
          exact ⟨pa', cap', rfl, own_low HO6.out HXX.out (by omega), HB3.out.trans (HBEL6.out.mono (by omega))⟩
set_option maxHeartbeats 1000000 in
theorem Count_any (line : ByteArray) (wd tab want : Int) (wideA join raw : Bool) (w : World) (hT : T8 w) (hD : DB w) :
    Calls Tryz.prog 12 #[.string line, .int .i64 wd, lookV tab want wideA join raw] w fun e w' =>
      e = .returned (.int .i64 (rowsI line wd tab want wideA raw).length) ∧ Below w.heap.size w w' := by
  obtain ⟨n, hn⟩ : ∃ n, (rowsI line wd tab want wideA raw).length = n := ⟨_, rfl⟩
  rw [hn]
  have hb0 : Below w.heap.size w (w.alloc (.cells #[.int .i64 tab, .bool wideA, .int .i8 want, .bool join, .bool raw] 24)) := (Below.refl _ _).alloc (Nat.le_refl _) _
  have hx0 : (w.alloc (.cells #[.int .i64 tab, .bool wideA, .int .i8 want, .bool join, .bool raw] 24)).heap[w.heap.size]? = some (.cells #[.int .i64 tab, .bool wideA, .int .i8 want, .bool join, .bool raw] 24 (0, 0)) := World.alloc_heap_new w _
  have hT1 := hT.below rfl hb0
  have hD1 := hD.below hb0
  go_enter Tryz.func12, Tryz.ntmps12
  go_upto_region 1 with (fail)
  generalize w.alloc (.cells #[.int .i64 tab, .bool wideA, .int .i8 want, .bool join, .bool raw] 24) = W0 at hb0 hx0 hT1 hD1 ⊢
  have l0 : W0.cell? ⟨w.heap.size, 0, none⟩ = some (.int .i64 tab) := by simp [World.cell?, hx0]
  have l1 : W0.cell? ⟨w.heap.size, 1, none⟩ = some (.bool wideA) := by simp [World.cell?, hx0]
  have l2 : W0.cell? ⟨w.heap.size, 2, none⟩ = some (.int .i8 want) := by simp [World.cell?, hx0]
  have l3 : W0.cell? ⟨w.heap.size, 3, none⟩ = some (.bool join) := by simp [World.cell?, hx0]
  have l4 : W0.cell? ⟨w.heap.size, 4, none⟩ = some (.bool raw) := by simp [World.cell?, hx0]
  have HR := Lib.hid (Rows_any line wd tab want wideA join raw W0 hT1 hD1)
  rw [hn] at HR
  have HB0 := Lib.hid hb0
  clear hT hD hT1 hD1 hx0 hb0
  go_wp2_with (go_at_call 10; refine HR.out.mono ?_; rintro e w1 ⟨pa, cap, rfl, _, hb1⟩)
  go_ret
  exact ⟨rfl, HB0.out.trans (hb1.mono HB0.out.size)⟩
end Go.Proofs.YtphlhnkenehnnaaGreatDoor
