/- Contracts of shuttlelaw14.borders and shuttlelaw14.may: which places a map marks. Condition: utf8's two tables stand where start-up lays them. -/
import Derived.Test.YtphlhnkenehnnaaGreatDoorCntL
import Derived.Test.YtphlhnkenehnnaaGreatDoorTilesP
import Derived.Test.YtphlhnkenehnnaaGreatDoorV5
import Derived.RangeFuncWrites
import Derived.Maps.OwnIn
namespace Go.Proofs.YtphlhnkenehnnaaGreatDoor
set_option linter.unusedVariables false
set_option linter.unusedSimpArgs false
open Go.RowKit Go.Proofs Go.Shelf Go.Maps
attribute [local go_sem] Oper.semAt_some

/-- a map's literal: an entry is laid as a store lays it -/
theorem wpListIn_insert_own {H : Type} {F : Fence} {nF : Nat} {P : Program} (w : World) {ops : Array Oper} {rest : List Oper} {o : Oper} {a : Act} {Q : Exit → Act → World → Prop}
    (hg : o.guard = none) (m x v : Operand) (t : TypeId) (hop : o.op = Op.insert t m x v)
    (k e : TypeId) (K : Keyed P k) (ht : P.underlying t = some (.map k e)) (R : Value → Option (DataW H × List MemPlace)) (b n : Nat) (D : DataW H)
    (hm : a.eval m = .map (some b)) (hown : w.ownsMap P k R b n D) (hn : n < maxLen) (key val : Value) (kl : Lit) (hx : a.eval x = key) (hv : a.eval v = val) (hkey : keyOf P k key = some kl)
    (d : DataW H) (ps : List MemPlace) (hval : R val = some (d, ps))
    (hK : ∀ w', w'.ownsMap P k R b (n + 1) (D.put kl d) → w.grownBy w' (some b) → wpListIn F nF P ops Q rest (a.put o.dst undef) w') :
    wpListIn F nF P ops Q (o :: rest) a w := by
  refine wpListIn_plain hg fun K' hK' => ?_
  obtain ⟨w', hrun, r1, r2⟩ := hown.update K ht hn hkey hval
  unfold Oper.wpIn
  refine ⟨by simp [Oper.about, hop], ?_⟩
  rw [Oper.semAt_plain F _ _ (by rw [hop]; intro c hc'; cases hc')]
  simp [execOp, hop, hm, hx, hv, hrun, Result.andThen]
  exact hK' _ _ (hK w' r1 r2)
/-- a map that marks places -/
def Marks (W : World) (M cnt : Nat) (p : Nat → Prop) : Prop := ∃ (D : DataW Unit) (goes : List (Nat × Nat)), W.ownsMap Tryz.prog 3 (plainElem Tryz.prog 3) M cnt D ∧ MapIs D goes ∧ ∀ j, p j → gfind goes j = some 1
theorem Marks.kept {W W' : World} {M cnt : Nat} {p : Nat → Prop} {row : Option Nat} (h : Marks W M cnt p) (hg : W.grownBy W' row) (hne : some M ≠ row) : Marks W' M cnt p := by
  obtain ⟨D, goes, h1, h2, h3⟩ := h
  exact ⟨D, goes, h1.kept hg hne, h2, h3⟩
theorem Marks.lt {W : World} {M cnt : Nat} {p : Nat → Prop} (h : Marks W M cnt p) : M < W.heap.size := by
  obtain ⟨D, goes, h1, _, _⟩ := h
  exact h1.lt
theorem Marks.below {W W' : World} {M cnt B : Nat} {p : Nat → Prop} (h : Marks W M cnt p) (hb : Below B W W') (hM : M < B) : Marks W' M cnt p := by
  obtain ⟨D, goes, ⟨es, clock, hbk, F, hs, hD⟩, h2, h3⟩ := h
  exact ⟨D, goes, ⟨es, clock, (hb.block M hM).trans hbk, F, hs, hD⟩, h2, h3⟩
theorem Marks.weak {W : World} {M cnt cnt' : Nat} {p p' : Nat → Prop} (h : Marks W M cnt p) (hc : cnt ≤ cnt') (hp : ∀ j, p' j → p j) : Marks W M cnt' p' := by
  obtain ⟨D, goes, h1, h2, h3⟩ := h
  exact ⟨D, goes, h1.mono hc, h2, fun j hj => h3 j (hp j hj)⟩
theorem Marks.one {W : World} {M cnt : Nat} {p : Nat → Prop} (h : Marks W M cnt p) : ∃ (D : DataW Unit), W.ownsMap Tryz.prog 3 (plainElem Tryz.prog 3) M cnt D ∧ ∀ j : Nat, p j → D.atKey (.int .i64 j) (.lit (.int .i64 0)) = .lit (.int .i64 1) := by
  obtain ⟨D, goes, h1, h2, h3⟩ := h
  exact ⟨D, h1, fun j hj => (h2.some_ j 1 (h3 j hj)).2⟩
theorem marks_put {W : World} {M cnt' : Nat} {D : DataW Unit} {goes : List (Nat × Nat)} {p p' : Nat → Prop} {j : Nat} {x : Int} (h1 : W.ownsMap Tryz.prog 3 (plainElem Tryz.prog 3) M cnt' (D.put (.int .i64 x) (.lit (.int .i64 1)))) (hx : x = j) (h2 : MapIs D goes) (h3 : ∀ i, p i → gfind goes i = some 1) (hp : ∀ i, p' i → i = j ∨ p i) : Marks W M cnt' p' := by
  subst hx
  refine ⟨_, (j, 1) :: goes, h1, h2.put j 1, fun i hi => ?_⟩
  rw [gfind_cons]
  by_cases e : j = i
  · rw [if_pos e]
  · rw [if_neg e]
    rcases hp i hi with h | h
    · exact absurd h.symm e
    · exact h3 i h
theorem ended_snoc {L : List (Nat × ByteArray)} {x : Nat × ByteArray} {j : Nat} (h : Ended (L ++ [x]) j) : j = x.1 + x.2.size ∨ Ended L j := by
  obtain ⟨k, p, hp, he⟩ := h
  by_cases hk : k < L.length
  · rw [List.getElem?_append_left hk] at hp
    exact .inr ⟨k, p, hp, he⟩
  · rw [List.getElem?_append_right (by omega)] at hp
    have : k - L.length = 0 := by
      have := (List.getElem?_eq_some_iff.1 hp).1
      simpa using this
    rw [this, List.getElem?_cons_zero] at hp
    cases hp
    exact .inl he.symm
theorem endedMay_snoc {L : List (Nat × ByteArray)} {wh : List Int} {x : Nat × ByteArray} {j : Nat} (h : EndedMay (L ++ [x]) wh j) : (j = x.1 + x.2.size ∧ ith wh L.length = 1) ∨ EndedMay L wh j := by
  obtain ⟨k, p, hp, he, hw⟩ := h
  by_cases hk : k < L.length
  · rw [List.getElem?_append_left hk] at hp
    exact .inr ⟨k, p, hp, he, hw⟩
  · rw [List.getElem?_append_right (by omega)] at hp
    have h0 : k - L.length = 0 := by
      have := (List.getElem?_eq_some_iff.1 hp).1
      simpa using this
    rw [h0, List.getElem?_cons_zero] at hp
    cases hp
    have : k = L.length := by omega
    subst this
    exact .inl ⟨he.symm, hw⟩
theorem sum_i2 (a b e : Nat) (h : a + b = e) (h2 : e ≤ 4194304) : IntKind.i64.wrap ((a : Int) + (b : Int)) = (e : Int) := by rw [IntKind.wrap_i64]; omega
/-- between two rounds of borders -/
def BoJ (w : World) (M B n : Nat) (s : ByteArray) (pre : List (PieceOf s)) (W : World) : Prop :=
  Boxed W B 41 (.map (some M)) ∧ Boxed W n 9 (.string s) ∧ Marks W M (pre.length + 1) (fun j => j = 0 ∨ Ended (pre.map (·.1)) j) ∧ Below w.heap.size w W
set_option maxRecDepth 100000 in
set_option maxHeartbeats 1000000 in
theorem borders_any (s : ByteArray) (hs : s.size ≤ 2097152) (w : World) (hT : T8 w) :
    Calls Tryz.prog 19 #[.string s] w fun e w' => ∃ M cnt, e = .returned (.map (some M)) ∧ w.heap.size ≤ M ∧ Marks w' M cnt (fun j => j = 0 ∨ Ended (piecesI s) j) ∧ Below w.heap.size w w' := by
  refine (callsIn_wide (n := 4)).1 ?_
  refine callsIn_of_wp_marks Tryz.func19 rfl trivial ?_ rfl
  simp only [Tryz.ntmps19, List.size_toArray, List.length_cons, List.length_nil, Nat.reduceAdd, Nat.reduceSub, Array.replicate_succ, Array.replicate_zero, List.push_toArray, List.append_toArray, List.nil_append, List.cons_append]
  have hmm := @run_makeMap Tryz.prog
  obtain ⟨M, hM⟩ : ∃ M, w.heap.size = M := ⟨_, rfl⟩
  have hown0 := World.ownsMap_made w Tryz.prog 3 (plainElem (H := Unit) Tryz.prog 3)
  have hbm : Below w.heap.size w (w.alloc (.map #[] 0)) := (Below.refl _ _).alloc (Nat.le_refl _) _
  rw [hM] at hown0 hbm
  gi_upto_region 2 with (refine wpListIn_insert_own _ rfl _ _ _ 41 rfl 3 3 key_law Tryz.underlying41 _ M 0 (.map []) rfl hown0 (by unfold maxLen; omega) _ _ _ rfl rfl (keyOf_int_mk Tryz.underlying3 (by decide)) _ [] (plainElem_int Tryz.underlying3 (by decide)) ?_; intro w1 hown1 hg1)
  have hM1 : M < w1.heap.size := hown1.lt
  have hb1 : Below M w w1 := by
    have := hbm.grown hg1 (by simp; omega) (fun k e => by cases e; exact Nat.le_refl _)
    exact this
  have hbB := World.alloc_heap_new w1 (.cells #[.map (some M)] 41)
  have hb2 : Below w1.heap.size w1 (w1.alloc (.cells #[.map (some M)] 41)) := (Below.refl _ _).alloc (Nat.le_refl _) _
  have hm0 : Marks w1 M 1 (fun j => j = 0) := marks_put (j := 0) (goes := []) (p := fun _ => False) hown1 rfl MapIs.nil (fun i h => h.elim) (fun i h => .inl h)
  have hm2 := hm0.below hb2 hM1
  have hb02 : Below M w (w1.alloc (.cells #[.map (some M)] 41)) := hb1.trans (hb2.mono (by omega))
  have hs2 : (w1.alloc (.cells #[.map (some M)] 41)).heap.size = w1.heap.size + 1 := World.size_alloc _ _
  obtain ⟨B, hB⟩ : ∃ B, w1.heap.size = B := ⟨_, rfl⟩
  rw [hB] at hM1 hbB hs2 ⊢
  generalize w1.alloc (.cells #[.map (some M)] 41) = W2 at hbB hm2 hb02 hs2 ⊢
  have k1 : Boxed W2 B 41 (.map (some M)) := hbB
  clear hown1 hg1 hb1 hb2 hm0 hbB hown0 hbm hB
  gi_wp2_with (fail)
  refine ⟨trivial, ?_⟩
  refine (callsIn_wide.2 (All_any s _)).mono ?_
  rintro e' W3 ⟨rfl, hW3⟩
  rw [hs2]
  unfold itV
  have hb3 : Below W2.heap.size W2 W3 := hW3 ▸ (Below.refl _ _).alloc (Nat.le_refl _) _
  have hbs : Boxed W3 (B + 1) 9 (.string s) := by rw [← hs2, hW3]; exact World.alloc_heap_new W2 _
  have hs3 : W3.heap.size = B + 2 := by rw [hW3, World.size_alloc, hs2]
  have k13 : Boxed W3 B 41 (.map (some M)) := (hb3.block _ (by omega)).trans k1
  have hm3 := hm2.below hb3 (by omega)
  have hb03 : Below M w W3 := hb02.trans (hb3.mono (by omega))
  clear hW3 hb3 k1 hm2 hb02
  have hnf := eq_it (B + 1)
  have hT3 : T8 W3 := hT.below rfl (hM ▸ hb03)
  have h3 : Tryz.lays197_ren.g 3 < w.heap.size := cell_lt (hT.1 0 (by omega))
  have h4 : Tryz.lays197_ren.g 4 < w.heap.size := cell_lt (hT.2 0 (by omega)).1
  gi_upto_region 5 with (fail)
  clear hnf
  gi_wp2_with (fail)
  refine wpIn_rangeFunc_ownG (F := Fence.wide) rfl (by omega) (gf := 110) (lb := #[.pointer (some ⟨B + 1, 0, none⟩)]) rfl trivial (enters_of Tryz.func110 (by kernel_rfl) rfl)
    (pieces_stops 3 (by omega) (B + 1) w.heap.size s (by omega) h3 h4 W3 (by omega) hbs.cell hT3) (fun h k => KpB.trans h k) (kpB_put (w := W3) (by omega)) (Below.refl _ _) (fun _ => rfl)
    (BoJ w M B (B + 1) s) (fun _ _ _ => False) ?hI (fun _ _ _ _ _ hs _ _ => hs) ?h0
    (fun x => { tmps := #[.string s, undef, .map none, .pointer (some ⟨B, 0, none⟩), (.func (.func 110) #[] #[.pointer (some ⟨B + 1, 0, none⟩)]), .int .i64 x.1.1, .string x.1.2, .map (some M), .map (some M), .string s, (.func (.func 110) #[] #[.pointer (some ⟨B + 1, 0, none⟩)]), (.func (.func 110) #[] #[.pointer (some ⟨B + 1, 0, none⟩)]), .bool false, undef, (.func (.func 110) #[] #[.pointer (some ⟨B + 1, 0, none⟩)]), .int .i64 x.1.1, .string x.1.2, undef, undef, undef, undef, undef, undef], defers := [] }) ?assign ?body ?done ?stop
  case hI =>
    rintro pre X Y row ⟨r1, r2, r3, r4⟩ hg hrow
    have hr := fun k e => (hrow k e).2
    exact ⟨box_kept r1 hg hr, box_kept r2 hg hr, r3.kept hg (fun e => by have := (hrow M e.symm).1; omega), r4.grown hg (by have := r4.size; omega) (fun k e => by have := (hrow k e).1; omega)⟩
  case h0 =>
    refine ⟨k13, hbs, hm3.weak (by simp) (fun j hj => ?_), hM ▸ hb03⟩
    rcases hj with hj | ⟨k, p, hp, _⟩
    · exact hj
    · simp at hp
  case assign =>
    intro l x W K hK
    gi_wp2_with (fail)
    exact hK
  case body =>
    rintro l pre x W ⟨r1, r2, r3, r4⟩ hlt
    obtain ⟨at', hat⟩ : ∃ a, x.1.1 = a := ⟨_, rfl⟩
    obtain ⟨c, hcc⟩ : ∃ c, x.1.2 = c := ⟨_, rfl⟩
    have hx := x.2
    rw [hat, hcc] at hx
    simp only [hat, hcc]
    have hpl := pieces_len s
    have hkz : pre.length + 1 ≤ 2097153 := by omega
    obtain ⟨e, he⟩ : ∃ e, at' + c.size = e := ⟨_, rfl⟩
    have hez : e ≤ 4194304 := by omega
    obtain ⟨D, goes, m1, m2, m3⟩ := r3
    have c1 := r1.cell
    have hMW := m1.lt
    have R1 := Lib.hid r1
    have R2 := Lib.hid r2
    have R4 := Lib.hid r4
    have M2 := Lib.hid m2
    have M3 := Lib.hid m3
    have HAT := Lib.hid hat
    have HCC := Lib.hid hcc
    have HE := Lib.hid he
    have hs4 := r4.size
    have hw1 : IntKind.i64.wrap ((at' : Int) + (c.size : Int)) = (e : Int) := sum_i2 at' c.size e he hez
    have hkey : keyOf Tryz.prog 3 (.int .i64 (e : Int)) = some (.int .i64 (e : Int)) := keyOf_int_mk Tryz.underlying3 (WalkArith.wf_i64 (by omega))
    have g1 : (at' : Int) ≤ 4194304 := by omega
    have g2 : (c.size : Int) ≤ 4194304 := by omega
    clear r1 r2 r4 m2 m3 hat hcc he hx hlt hpl hw1
    gi_wp2_with (gi_at_mapUpdate; refine wpListIn_mapUpdate_own _ rfl _ _ _ 41 rfl 3 3 key_law Tryz.underlying41 _ M _ D rfl m1 (by unfold maxLen; omega) _ _ _ rfl rfl (keyOf_int_mk Tryz.underlying3 (WalkArith.wf_i64 (by omega))) _ [] (plainElem_int Tryz.underlying3 (by decide)) ?_; intro w2 hown2 hg2)
    have hrow : ∀ k, some M = some k → M ≤ k := fun k e => by cases e; exact Nat.le_refl _
    have hb2 : Below w.heap.size W w2 := (Below.refl _ W).grown hg2 (by omega) (fun k e => by cases e; omega)
    have q1 : Boxed w2 B 41 (.map (some M)) := (hg2.block B (Array.getElem?_eq_some_iff.1 R1.out).1 (fun e => by cases e; omega)).trans R1.out
    have q2 : Boxed w2 (B + 1) 9 (.string s) := (hg2.block (B + 1) (Array.getElem?_eq_some_iff.1 R2.out).1 (fun e => by cases e; omega)).trans R2.out
    refine ⟨KeepsFrom.of_grownBy hg2 (fun j e => by cases e; omega), ⟨hM ▸ hb2, fun v hv => ?_⟩, q1, q2, ?_, R4.out.trans hb2⟩
    · rw [R2.out.cell] at hv
      cases hv
      exact q2.cell
    · have hL : (pre ++ [x]).length + 1 = pre.length + 1 + 1 := by simp
      rw [hL]
      refine marks_put (j := e) hown2 ?_ M2.out M3.out (fun i hi => ?_)
      · have := HE.out; omega
      · rw [List.map_append, List.map_singleton] at hi
        rcases hi with hi | hi
        · exact .inr (.inl hi)
        · rcases ended_snoc hi with h | h
          · left; rw [h, HAT.out, HCC.out]; exact HE.out
          · exact .inr (.inr h)
  case done =>
    rintro D xs W hD hxs ⟨r1, r2, r3, r4⟩ hK
    have c1 := r1.cell
    rw [hxs] at r3
    have R3 := Lib.hid r3
    have R4 := Lib.hid r4
    clear r1 r2 r3 r4 hxs
    gi_wp2_with (fail)
    refine ⟨by simp, .inl ⟨_, _, rfl, run_takeDeferred hK, ?_⟩⟩
    refine ⟨_, results_tmp rfl _ _ _, M, xs.length + 1, rfl, by omega, R3.out.kept (grownBy_putObj' W D (.deferred none)) (fun e => by cases e; omega), ?_⟩
    exact R4.out.trans (belowK_b (w := w) (Nat.le_refl _) W D _ _ (by omega) hK rfl rfl)
  case stop =>
    rintro D c pre W hD _ h _
    exact h.elim
/-- between two rounds of may -/
def MyJ (w : World) (M B A n : Nat) (s : ByteArray) (wa : Option Addr) (wc : Nat) (pre : List (PieceOf s)) (W : World) : Prop :=
  Boxed W B 41 (.map (some M)) ∧ Boxed W A 46 (.slice wa (whereI s).length wc) ∧ OutAt .i8 22 W M wa wc (whereI s) ∧ Boxed W n 9 (.string s) ∧ Boxed W (n + 1) 3 (.int .i64 pre.length) ∧
    Marks W M pre.length (EndedMay (pre.map (·.1)) (whereI s)) ∧ Below M w W
/-- a row of cells is no map -/
theorem row_map {W W' : World} {base e size k M : Nat} {v : Value} {xs : List Value} (h : W.ownsRow base e size v k xs) {cnt : Nat} {D : DataW Unit} (hm : W.ownsMap Tryz.prog 3 (plainElem Tryz.prog 3) M cnt D) (hg : W.grownBy W' (some M)) : W'.ownsRow base e size v k xs := by
  refine World.ownsRow.kept h hg ?_
  rcases h.2 with ⟨h, _⟩ | ⟨g, cap, cur, h, _, hgb, _⟩
  · rw [h]; exact .inl rfl
  · rw [h]
    refine .inr fun e' => ?_
    obtain ⟨es, clock, hb, _⟩ := hm
    have : M = g := by
      have := Option.some.inj e'
      exact this.symm
    subst this
    rw [hgb] at hb
    cases hb
set_option maxRecDepth 100000 in
set_option maxHeartbeats 1000000 in
theorem may_any (s : ByteArray) (hs : s.size ≤ 2097152) (w : World) (hT : T8 w) :
    Calls Tryz.prog 18 #[.string s] w fun e w' => ∃ M cnt, e = .returned (.map (some M)) ∧ w.heap.size ≤ M ∧ Marks w' M cnt (EndedMay (piecesI s) (whereI s)) ∧ Below w.heap.size w w' := by
  refine (callsIn_wide (n := 4)).1 ?_
  refine callsIn_of_wp_marks Tryz.func18 rfl trivial ?_ rfl
  simp only [Tryz.ntmps18, List.size_toArray, List.length_cons, List.length_nil, Nat.reduceAdd, Nat.reduceSub, Array.replicate_succ, Array.replicate_zero, List.push_toArray, List.append_toArray, List.nil_append, List.cons_append]
  have hmm := @run_makeMap Tryz.prog
  obtain ⟨M, hM⟩ : ∃ M, w.heap.size = M := ⟨_, rfl⟩
  have hown0 := World.ownsMap_made w Tryz.prog 3 (plainElem (H := Unit) Tryz.prog 3)
  have hbm : Below w.heap.size w ((w.alloc (.map #[] 0)).alloc (.cells #[.map (some w.heap.size)] 41)) := ((Below.refl _ _).alloc (Nat.le_refl _) _).alloc (by simp) _
  have hbB := World.alloc_heap_new (w.alloc (.map #[] 0)) (.cells #[.map (some w.heap.size)] 41)
  have hb2 := (Below.refl (w.alloc (.map #[] 0)).heap.size (w.alloc (.map #[] 0))).alloc (Nat.le_refl _) (.cells #[.map (some w.heap.size)] 41)
  rw [World.size_alloc] at hbB hb2
  rw [hM] at hown0 hbm hbB hb2
  have hm0 : Marks (w.alloc (.map #[] 0)) M 0 (fun _ => False) := ⟨.map [], [], hown0, MapIs.nil, fun _ h => h.elim⟩
  have hm2 := hm0.below hb2 (by omega)
  gi_upto_region 2 with (fail)
  have hs2 : ((w.alloc (.map #[] 0)).alloc (.cells #[.map (some M)] 41)).heap.size = M + 2 := by rw [World.size_alloc, World.size_alloc, hM]
  generalize (w.alloc (.map #[] 0)).alloc (.cells #[.map (some M)] 41) = W2 at hbm hbB hm2 hs2 ⊢
  have k1 : Boxed W2 (M + 1) 41 (.map (some M)) := hbB
  have hT2 : T8 W2 := hT.below rfl (hM ▸ hbm)
  have hWH := Where_any s W2 hT2 hs
  have HWH := Lib.hid hWH
  clear hown0 hm0 hb2 hbB hmm hWH
  gi_wp2_with (fail)
  refine ⟨trivial, ?_⟩
  refine (callsIn_wide.2 HWH.out).mono ?_
  rintro e' W3 ⟨wa, wc, rfl, hO, hb3⟩
  obtain ⟨A, hA⟩ : ∃ A, W3.heap.size = A := ⟨_, rfl⟩
  have hs3 := hb3.size
  have hb34 := (Below.refl W3.heap.size W3).alloc (Nat.le_refl _) (.cells #[.slice wa (whereI s).length wc] 46)
  have hx4 := World.alloc_heap_new W3 (.cells #[.slice wa (whereI s).length wc] 46)
  have hz4 : (W3.alloc (.cells #[.slice wa (whereI s).length wc] 46)).heap.size = W3.heap.size + 1 := World.size_alloc _ _
  gi_upto_region 3 with (fail)
  generalize W3.alloc (.cells #[.slice wa (whereI s).length wc] 46) = W4 at hb34 hx4 hz4 ⊢
  have hb24 : Below W2.heap.size W2 W4 := hb3.trans (hb34.mono hs3)
  have k14 : Boxed W4 (M + 1) 41 (.map (some M)) := (hb24.block _ (by omega)).trans k1
  have hm4 := hm2.below hb24 (by omega)
  have hO4 : OutAt .i8 22 W4 M wa wc (whereI s) := own_mono (hO.keep hb34) (by omega)
  have hb04 : Below M w W4 := hbm.trans (hb24.mono (by omega))
  rw [hA] at hx4 hz4
  have k4 : Boxed W4 A 46 (.slice wa (whereI s).length wc) := hx4
  have hMA : M + 2 ≤ A := by omega
  clear HWH hb3 hs3 hb34 hx4 hb24 k1 hm2 hO hbm hA hT2
  gi_wp2_with (fail)
  refine ⟨trivial, ?_⟩
  refine (callsIn_wide.2 (All_any s _)).mono ?_
  rintro e' W5 ⟨rfl, hW5⟩
  unfold itV
  simp only [hz4]
  have hb45 : Below W4.heap.size W4 W5 := hW5 ▸ (Below.refl _ _).alloc (Nat.le_refl _) _
  have hbs5 : Boxed W5 (A + 1) 9 (.string s) := by rw [← hz4, hW5]; exact World.alloc_heap_new W4 _
  have hz5 : W5.heap.size = A + 2 := by rw [hW5, World.size_alloc, hz4]
  clear hW5
  have hnf := eq_it (A + 1)
  have hb56 := (Below.refl W5.heap.size W5).alloc (Nat.le_refl _) (.cells #[.int .i64 0] 3)
  have hx6 := World.alloc_heap_new W5 (.cells #[.int .i64 0] 3)
  have hz6 : (W5.alloc (.cells #[.int .i64 0] 3)).heap.size = A + 3 := by rw [World.size_alloc, hz5]
  gi_upto_region 7 with (fail)
  clear hnf
  rw [hz5] at hx6 hb56
  generalize W5.alloc (.cells #[.int .i64 0] 3) = W6 at hb56 hx6 hz6 ⊢
  have hb46 : Below W4.heap.size W4 W6 := hb45.trans (hb56.mono (by omega))
  have n1 : Boxed W6 (A + 1) 9 (.string s) := (hb56.block _ (by omega)).trans hbs5
  have n2 : Boxed W6 (A + 1 + 1) 3 (.int .i64 0) := hx6
  have k16 : Boxed W6 (M + 1) 41 (.map (some M)) := (hb46.block _ (by omega)).trans k14
  have k6 : Boxed W6 A 46 (.slice wa (whereI s).length wc) := (hb46.block _ (by omega)).trans k4
  have hm6 := hm4.below hb46 (by omega)
  have hO6 : OutAt .i8 22 W6 M wa wc (whereI s) := hO4.keep hb46
  have hb06 : Below M w W6 := hb04.trans (hb46.mono (by omega))
  have hT6 : T8 W6 := hT.below rfl (hM ▸ hb06)
  have h3 : Tryz.lays197_ren.g 3 < w.heap.size := cell_lt (hT.1 0 (by omega))
  have h4 : Tryz.lays197_ren.g 4 < w.heap.size := cell_lt (hT.2 0 (by omega)).1
  clear hb45 hbs5 hz5 hb56 hx6 hb46 k14 k4 hm4 hO4 hb04 hz4
  gi_wp2_with (fail)
  refine wpIn_rangeFunc_ownG (F := Fence.wide) rfl (by omega) (gf := 110) (lb := #[.pointer (some ⟨A + 1, 0, none⟩)]) rfl trivial (enters_of Tryz.func110 (by kernel_rfl) rfl)
    (pieces_stops 3 (by omega) (A + 1) w.heap.size s (by omega) h3 h4 W6 (by omega) n1.cell hT6) (fun h k => KpB.trans h k) (kpB_put (w := W6) (by omega)) (Below.refl _ _) (fun _ => rfl)
    (MyJ w M (M + 1) A (A + 1) s wa wc) (fun _ _ _ => False) ?hI (fun _ _ _ _ _ hs _ _ => hs) ?h0
    (fun x => { tmps := #[.string s, undef, .map none, .pointer (some ⟨M + 1, 0, none⟩), .pointer (some ⟨A, 0, none⟩), (.func (.func 110) #[] #[.pointer (some ⟨A + 1, 0, none⟩)]), .pointer (some ⟨A + 1 + 1, 0, none⟩), .int .i64 x.1.1, .string x.1.2, .map (some M), .string s, .slice wa (whereI s).length wc, .string s, (.func (.func 110) #[] #[.pointer (some ⟨A + 1, 0, none⟩)]), (.func (.func 110) #[] #[.pointer (some ⟨A + 1, 0, none⟩)]), .bool false, undef, (.func (.func 110) #[] #[.pointer (some ⟨A + 1, 0, none⟩)]), .int .i64 x.1.1, .string x.1.2, undef, undef, undef, undef, undef, undef, undef, undef, undef, undef, undef, undef, undef, undef, undef, undef, undef, undef, undef], defers := [] }) ?assign ?body ?done ?stop
  case hI =>
    rintro pre X Y row ⟨r1, r2, r3, r4, r5, r6, r7⟩ hg hrow
    have hr := fun k e => (hrow k e).2
    refine ⟨box_kept r1 hg hr, box_kept r2 hg hr, World.ownsRow.kept r3 hg ?_, box_kept r4 hg hr, box_kept r5 hg hr, r6.kept hg (fun e => by have := (hrow M e.symm).1; omega), r7.grown hg (by have := r7.size; omega) (fun k e => by have := (hrow k e).1; omega)⟩
    rcases r3.2 with ⟨h, _⟩ | ⟨g, cap, cur, h, _, hgb, _⟩
    · rw [h]; exact .inl rfl
    · rw [h]
      refine .inr fun e' => ?_
      obtain ⟨o, ho, hc⟩ := hr _ e'.symm
      rw [hgb] at ho
      cases ho; cases hc
  case h0 =>
    refine ⟨k16, k6, hO6, n1, n2, hm6.weak (Nat.le_refl _) (fun j hj => ?_), hb06⟩
    obtain ⟨k, p, hp, _⟩ := hj
    simp at hp
  case assign =>
    intro l x W K hK
    gi_wp2_with (fail)
    exact hK
  case body =>
    rintro l pre x W ⟨r1, r2, r3, r4, r5, r6, r7⟩ hlt
    obtain ⟨at', hat⟩ : ∃ a, x.1.1 = a := ⟨_, rfl⟩
    obtain ⟨c, hcc⟩ : ∃ c, x.1.2 = c := ⟨_, rfl⟩
    have hx := x.2
    rw [hat, hcc] at hx
    simp only [hat, hcc]
    have hpl := pieces_len s
    obtain ⟨k, hk⟩ : ∃ k, pre.length = k := ⟨_, rfl⟩
    rw [hk] at r5 r6 hlt
    have hkl : k < (whereI s).length := by rw [whereI_len]; exact hlt
    have hkz : k + 1 ≤ 2097153 := by omega
    obtain ⟨e, he⟩ : ∃ e, at' + c.size = e := ⟨_, rfl⟩
    have hez : e ≤ 4194304 := by omega
    obtain ⟨G, hG, hmG, hGl, hcell, _⟩ := r3.at k hkl
    subst hG
    obtain ⟨q, hq⟩ : ∃ q, ith (whereI s) k = q := ⟨_, rfl⟩
    rw [hq] at hcell
    obtain ⟨D, goes, m1, m2, m3⟩ := r6
    have c1 := r1.cell
    have c2 := r2.cell
    have c5 := r5.cell
    have f5 := r5.frozen
    have hMW := m1.lt
    have hsn : ∀ j, EndedMay ((pre ++ [x]).map (·.1)) (whereI s) j → (j = e ∧ q = 1) ∨ EndedMay (pre.map (·.1)) (whereI s) j := fun j hj => by
      rw [List.map_append, List.map_singleton] at hj
      rcases endedMay_snoc hj with ⟨h1, h2⟩ | h
      · rw [List.length_map, hk, hq] at h2
        exact .inl ⟨by rw [h1, hat, hcc]; exact he, h2⟩
      · exact .inr h
    obtain ⟨N, hN⟩ : ∃ N, (whereI s).length = N := ⟨_, rfl⟩
    rw [hN] at hkl c2
    have HN := Lib.hid hN
    have R1 := Lib.hid r1
    have R2 := Lib.hid r2
    have R3 := Lib.hid r3
    have R4 := Lib.hid r4
    have R5 := Lib.hid r5
    have R7 := Lib.hid r7
    have M1 := Lib.hid m1
    have M2 := Lib.hid m2
    have M3 := Lib.hid m3
    have HSN := Lib.hid hsn
    have HK := Lib.hid hk
    have HE := Lib.hid he
    have hs7 := r7.size
    have g1 : (at' : Int) ≤ 4194304 := by omega
    have g2 : (c.size : Int) ≤ 4194304 := by omega
    clear r1 r2 r3 r4 r5 r7 m2 m3 hsn hat hcc hk he hx hpl hq hN hlt
    -- the step of the counter
    have hstep : ∀ W1 : World, Below M W W1 → KeepsFrom (A + 3) W W1 → Boxed W1 (M + 1) 41 (.map (some M)) → Boxed W1 A 46 (.slice (some ⟨G, 0, none⟩) (whereI s).length wc) → OutAt .i8 22 W1 M (some ⟨G, 0, none⟩) wc (whereI s) → Boxed W1 (A + 1) 9 (.string s) → Boxed W1 (A + 1 + 1) 3 (.int .i64 k) →
        Marks W1 M (k + 1) (EndedMay ((pre ++ [x]).map (·.1)) (whereI s)) →
        KeepsFrom (A + 3) W (W1.setCell ⟨A + 1 + 1, 0, none⟩ (.int .i64 ((k : Int) + 1))) ∧ KpB (A + 1) M W (W1.setCell ⟨A + 1 + 1, 0, none⟩ (.int .i64 ((k : Int) + 1))) ∧ MyJ w M (M + 1) A (A + 1) s (some ⟨G, 0, none⟩) wc (pre ++ [x]) (W1.setCell ⟨A + 1 + 1, 0, none⟩ (.int .i64 ((k : Int) + 1))) := by
      intro W1 b1 kf j1 j2 j3 j4 j5 j6
      have b2 : Below M W (W1.setCell ⟨A + 1 + 1, 0, none⟩ (.int .i64 ((k : Int) + 1))) := b1.setCell (p := ⟨A + 1 + 1, 0, none⟩) (show M ≤ A + 1 + 1 by omega) _
      have s4 : Boxed (W1.setCell ⟨A + 1 + 1, 0, none⟩ (.int .i64 ((k : Int) + 1))) (A + 1) 9 (.string s) := box_other j4 (by omega)
      refine ⟨kf.trans ((KeepsOthers.setCell _ _ _).from _), ⟨b2, fun v hv => ?_⟩, box_other j1 (by omega), box_other j2 (by omega), row_other j3 (ne_row j3 j5 (by decide)), s4, ?_, ?_, R7.out.trans b2⟩
      · rw [R4.out.cell] at hv
        cases hv
        exact s4.cell
      · rw [List.length_append, HK.out]
        exact set_at j5 _
      · rw [List.length_append, HK.out]
        obtain ⟨D', goes', a1, a2, a3⟩ := j6
        exact ⟨D', goes', a1.setCell (show M ≠ A + 1 + 1 by omega) _, a2, a3⟩
    have HSTEP := Lib.hid hstep
    clear hstep
    by_cases e1 : q = 1
    · subst e1
      gi_wp2_with (gi_at_mapUpdate; refine wpListIn_mapUpdate_own _ rfl _ _ _ 41 rfl 3 3 key_law Tryz.underlying41 _ M _ D rfl m1 (by unfold maxLen; omega) _ _ _ rfl rfl (keyOf_int_mk Tryz.underlying3 (WalkArith.wf_i64 (by omega))) _ [] (plainElem_int Tryz.underlying3 (by decide)) ?_; intro w2 hown2 hg2; have c52 : w2.cell? ⟨A + 1 + 1, 0, none⟩ = some (.int .i64 k) := (show Boxed w2 (A + 1 + 1) 3 (.int .i64 k) from (hg2.block (A + 1 + 1) (Array.getElem?_eq_some_iff.1 R5.out).1 (fun e => by cases e; omega)).trans R5.out).cell; have f52 : w2.frozen? ⟨A + 1 + 1, 0, none⟩ = false := (show Boxed w2 (A + 1 + 1) 3 (.int .i64 k) from (hg2.block (A + 1 + 1) (Array.getElem?_eq_some_iff.1 R5.out).1 (fun e => by cases e; omega)).trans R5.out).frozen)
      have hb2 : Below M W w2 := (Below.refl _ W).grown hg2 (by omega) (fun k e => by cases e; omega)
      have hbl : ∀ {b t : Nat} {u : Value}, b ≠ M → Boxed W b t u → Boxed w2 b t u := fun hne hb => (hg2.block _ (Array.getElem?_eq_some_iff.1 hb).1 (fun e => hne (Option.some.inj e))).trans hb
      refine HSTEP.out w2 hb2 (KeepsFrom.of_grownBy hg2 (fun j e => by cases e; omega)) (hbl (by omega) R1.out) (hbl (by omega) R2.out) (row_map R3.out M1.out hg2) (hbl (by omega) R4.out) (hbl (by omega) R5.out) ?_
      refine marks_put (j := e) hown2 ?_ M2.out M3.out (fun i hi => ?_)
      · have := HE.out; omega
      · rcases HSN.out i hi with ⟨h, _⟩ | h
        · exact .inl h
        · exact .inr h
    · have e3 : (q == 1) = false := by rw [beq_eq_false_iff_ne]; exact e1
      gi_wp2_with (fail)
      refine HSTEP.out W (Below.refl _ _) (KeepsFrom.refl _ _) R1.out R2.out R3.out R4.out R5.out ⟨D, goes, M1.out.mono (Nat.le_succ _), M2.out, fun i hi => ?_⟩
      rcases HSN.out i hi with ⟨_, h⟩ | h
      · exact absurd h e1
      · exact M3.out i h
  case done =>
    rintro D xs W hD hxs ⟨r1, r2, r3, r4, r5, r6, r7⟩ hK
    have c1 := r1.cell
    rw [hxs] at r6
    have R6 := Lib.hid r6
    have R7 := Lib.hid r7
    clear r1 r2 r3 r4 r5 r6 r7 hxs
    gi_wp2_with (fail)
    refine ⟨by simp, .inl ⟨_, _, rfl, run_takeDeferred hK, ?_⟩⟩
    refine ⟨_, results_tmp rfl _ _ _, M, xs.length, rfl, by omega, R6.out.kept (grownBy_putObj' W D (.deferred none)) (fun e => by cases e; omega), ?_⟩
    exact (hM ▸ R7.out).trans (belowK_b (w := w) (Nat.le_refl _) W D _ _ (by omega) hK rfl rfl)
  case stop =>
    rintro D c pre W hD _ h _
    exact h.elim
end Go.Proofs.YtphlhnkenehnnaaGreatDoor
