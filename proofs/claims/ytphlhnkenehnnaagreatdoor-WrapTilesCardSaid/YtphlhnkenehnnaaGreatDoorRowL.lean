/- Rows of a line as lists; contracts of shuttlelaw14.same and wrap.At. No conditions. -/
import Derived.Test.YtphlhnkenehnnaaGreatDoorSpecW
import Derived.Test.YtphlhnkenehnnaaGreatDoorBlk
import Derived.Deep.QuietTactic
import Derived.BigQuiet
import Derived.Laws.StructEq
namespace Go.Proofs.YtphlhnkenehnnaaGreatDoor
set_option linter.unusedVariables false
set_option linter.unusedSimpArgs false
open Go.RowKit Go.Proofs Go.Shelf
attribute [local go_sem] Oper.semAt_some

/-- a row, as the program tells it -/
structure RowV where
  a : Int
  len : Int
  level : Int
  wide : Int
  fin : Int
deriving DecidableEq
def rcell (r : RowV) : List Value := [.int .i64 r.a, .int .i64 r.len, .int .u8 r.level, .int .i64 r.wide, .int .i8 r.fin]
theorem flat5_len (l : List RowV) : (l.flatMap rcell).length = l.length * 5 := by
  induction l with
  | nil => rfl
  | cons x l ih => rw [List.flatMap_cons, List.length_append, ih, List.length_cons]; show 5 + _ = _; omega
theorem flat5_get (l : List RowV) (i : Nat) (r : RowV) (h : l[i]? = some r) (k : Nat) (v : Value) (hv : (rcell r)[k]? = some v) : (l.flatMap rcell)[i * 5 + k]? = some v := by
  have hk : k < 5 := by
    have := (List.getElem?_eq_some_iff.1 hv).1
    exact this
  induction l generalizing i with
  | nil => simp at h
  | cons x l ih =>
    rw [List.flatMap_cons]
    cases i with
    | zero =>
      have : x = r := by simpa using h
      subst this
      rw [Nat.zero_mul, Nat.zero_add, List.getElem?_append_left (show k < 5 from hk)]
      exact hv
    | succ i =>
      rw [List.getElem?_append_right (show 5 ≤ _ by omega), show (i + 1) * 5 + k - (rcell x).length = i * 5 + k from by show (i + 1) * 5 + k - 5 = _; omega]
      exact ih i (by simpa using h)
/-- a slice that reads as a list of rows -/
def RdR (w : World) (a : Option Addr) (l : List RowV) : Prop :=
  l = [] ∨ ∃ b off, a = some ⟨b, off, none⟩ ∧ b < w.heap.size ∧ ∀ i r, l[i]? = some r → ∀ k v, (rcell r)[k]? = some v → w.cell? ⟨b, off + i * 5 + k, none⟩ = some v
theorem RdR.below {w w' : World} {a : Option Addr} {l : List RowV} (h : RdR w a l) (hb : Below w.heap.size w w') : RdR w' a l := by
  rcases h with h | ⟨b, off, h1, h2, h3⟩
  · exact .inl h
  · exact .inr ⟨b, off, h1, Nat.lt_of_lt_of_le h2 hb.size, fun i r hi k v hv => cell_bl hb h2 (h3 i r hi k v hv)⟩
theorem RdR.drewN {w : World} {a : Option Addr} {l : List RowV} (h : RdR w a l) (m : Nat) : RdR (w.drewN m) a l := h
theorem RdR.at {w : World} {a : Option Addr} {l : List RowV} (h : RdR w a l) (i : Nat) (r : RowV) (hr : l[i]? = some r) :
    ∃ b off, a = some ⟨b, off, none⟩ ∧ b < w.heap.size ∧ w.cell? ⟨b, off + i * 5, none⟩ = some (.int .i64 r.a) ∧ w.cell? ⟨b, off + i * 5 + 1, none⟩ = some (.int .i64 r.len) ∧ w.cell? ⟨b, off + i * 5 + 2, none⟩ = some (.int .u8 r.level) ∧
      w.cell? ⟨b, off + i * 5 + 3, none⟩ = some (.int .i64 r.wide) ∧ w.cell? ⟨b, off + i * 5 + 4, none⟩ = some (.int .i8 r.fin) := by
  rcases h with h | ⟨b, off, h1, h2, h3⟩
  · subst h; simp at hr
  · exact ⟨b, off, h1, h2, h3 i r hr 0 _ rfl, h3 i r hr 1 _ rfl, h3 i r hr 2 _ rfl, h3 i r hr 3 _ rfl, h3 i r hr 4 _ rfl⟩
theorem row_fields : (Tryz.prog.fieldsOf 30).toList = [{ name := "At", type := 3, offset := 0, embedded := false, tag := "", pkgPath := "", byteOffset := 0 }, { name := "Len", type := 3, offset := 1, embedded := false, tag := "", pkgPath := "", byteOffset := 8 }, { name := "Level", type := 5, offset := 2, embedded := false, tag := "", pkgPath := "", byteOffset := 16 }, { name := "Wide", type := 3, offset := 3, embedded := false, tag := "", pkgPath := "", byteOffset := 24 }, { name := "End", type := 22, offset := 4, embedded := false, tag := "", pkgPath := "", byteOffset := 32 }] := by kernel_rfl
theorem row_held : Tryz.prog.stoodInHeld 30 = false := by kernel_rfl
theorem row_under : Tryz.prog.underlying 30 = some (.struct (Tryz.prog.fieldsOf 30)) := by kernel_rfl
def rowV (r : RowV) : Value := .agg #[.int .i64 r.a, .int .i64 r.len, .int .u8 r.level, .int .i64 r.wide, .int .i8 r.fin]
theorem Tryz.eq_row (r s : RowV) (w : World) :
    (Op.equalIn 10000 30 (.agg #[.int .i64 r.a, .int .i64 r.len, .int .u8 r.level, .int .i64 r.wide, .int .i8 r.fin]) (.agg #[.int .i64 s.a, .int .i64 s.len, .int .u8 s.level, .int .i64 s.wide, .int .i8 s.fin])).run Tryz.prog w = .ok (decide (r = s)) w := by
  obtain ⟨a1, a2, a3, a4, a5⟩ := r
  obtain ⟨b1, b2, b3, b4, b5⟩ := s
  dsimp only
  rw [run_equalIn_struct w 9999 30 _ _ row_under row_held, row_fields]
  have p3 : ∀ (xs : Array Value) (off : Nat) (v : Value) (w : World), xs[off]? = some v → (part 3 xs off).run Tryz.prog w = .ok v w := fun xs off v w hx => by simp [part, isAgg, run_underlying Tryz.underlying3, hx]
  have p5 : ∀ (xs : Array Value) (off : Nat) (v : Value) (w : World), xs[off]? = some v → (part 5 xs off).run Tryz.prog w = .ok v w := fun xs off v w hx => by simp [part, isAgg, run_underlying Tryz.underlying5, hx]
  have p22 : ∀ (xs : Array Value) (off : Nat) (v : Value) (w : World), xs[off]? = some v → (part 22 xs off).run Tryz.prog w = .ok v w := fun xs off v w hx => by simp [part, isAgg, run_underlying Tryz.underlying22, hx]
  have e3 := fun (a b : Int) => run_equalIn_int w 9998 3 .i64 .i64 a b Tryz.underlying3
  have e5 := fun (a b : Int) => run_equalIn_int w 9998 5 .u8 .u8 a b Tryz.underlying5
  have e22 := fun (a b : Int) => run_equalIn_int w 9998 22 .i8 .i8 a b Tryz.underlying22
  simp only [Nat.reduceAdd] at e3 e5 e22
  have key : ∀ (f : Field) (fs : List Field) (xs ys : Array Value) (x y : Value) (b : Bool), f.name ≠ "_" → (part f.type xs f.offset).run Tryz.prog w = .ok x w → (part f.type ys f.offset).run Tryz.prog w = .ok y w → (Op.equalIn 9999 f.type x y).run Tryz.prog w = .ok b w →
      (Op.eqFields 9999 xs ys (f :: fs)).run Tryz.prog w = if b = true then (Op.eqFields 9999 xs ys fs).run Tryz.prog w else .ok false w := by
    intro f fs xs ys x y b h0 h1 h2 h3
    simp only [Op.eqFields, if_pos h0, Sem.run_bind, h1, h2, h3, Result.andThen_ok]
    cases b <;> simp [Sem.run_pure]
  refine Eq.trans (key _ _ _ _ _ _ _ (by simp) (p3 _ _ _ w (by rfl)) (p3 _ _ _ w (by rfl)) (e3 _ _)) ?_
  by_cases h1 : a1 = b1
  case neg => rw [if_neg (by simpa using h1), decide_eq_false (by simp [h1])]
  rw [if_pos (by simpa using h1)]
  refine Eq.trans (key _ _ _ _ _ _ _ (by simp) (p3 _ _ _ w (by rfl)) (p3 _ _ _ w (by rfl)) (e3 _ _)) ?_
  by_cases h2 : a2 = b2
  case neg => rw [if_neg (by simpa using h2), decide_eq_false (by simp [h2])]
  rw [if_pos (by simpa using h2)]
  refine Eq.trans (key _ _ _ _ _ _ _ (by simp) (p5 _ _ _ w (by rfl)) (p5 _ _ _ w (by rfl)) (e5 _ _)) ?_
  by_cases h3 : a3 = b3
  case neg => rw [if_neg (by simpa using h3), decide_eq_false (by simp [h3])]
  rw [if_pos (by simpa using h3)]
  refine Eq.trans (key _ _ _ _ _ _ _ (by simp) (p3 _ _ _ w (by rfl)) (p3 _ _ _ w (by rfl)) (e3 _ _)) ?_
  by_cases h4 : a4 = b4
  case neg => rw [if_neg (by simpa using h4), decide_eq_false (by simp [h4])]
  rw [if_pos (by simpa using h4)]
  refine Eq.trans (key _ _ _ _ _ _ _ (by simp) (p22 _ _ _ w (by rfl)) (p22 _ _ _ w (by rfl)) (e22 _ _)) ?_
  by_cases h5 : a5 = b5
  case neg => rw [if_neg (by simpa using h5), decide_eq_false (by simp [h5])]
  rw [if_pos (by simpa using h5)]
  rw [decide_eq_true (by simp [h1, h2, h3, h4, h5])]
  simp [Op.eqFields]
theorem take_snoc {α : Type} {l : List α} {i : Nat} {r : α} (h : l[i]? = some r) : l.take (i + 1) = l.take i ++ [r] := by
  rw [List.take_add_one, h]
  rfl
set_option maxHeartbeats 1000000 in
theorem same_any (pa pb : Option Addr) (ca cb n k : Nat) (l m : List RowV) (hn : l.length = n) (hk : m.length = k) (hz : n ≤ 2097152) (hz2 : k ≤ 2097152) (w : World) (ha : RdR w pa l) (hb : RdR w pb m) :
    Calls Tryz.prog 11 #[.slice pa n ca, .slice pb k cb] w fun e w' => e = .returned (.bool (decide (l = m))) ∧ ∃ d, w' = w.drewN d := by
  by_cases hnk : n = k
  case neg =>
    have c0 : ((n : Int) != (k : Int)) = true := by rw [bne_iff_ne]; omega
    have hne : ¬ l = m := fun e => by rw [e] at hn; omega
    clear ha hb
    go_enter Tryz.func11, Tryz.ntmps11
    go_wp2_with (fail)
    go_ret
    exact ⟨ret_b (decide_eq_false hne).symm, 0, rfl⟩
  subst hnk
  have c0 : ((n : Int) != (n : Int)) = false := by simp
  have HA := Lib.hid ha
  have HB := Lib.hid hb
  clear ha hb
  go_enter Tryz.func11, Tryz.ntmps11
  go_wp2_with (fail)
  go_loopw [13] (fun c wx => ∃ (i d : Nat), i ≤ n ∧ c = .int .i64 i ∧ wx = w.drewN d ∧ l.take i = m.take i) (fun c _ => n - (intOf c).toNat)
  case atStart => exact ⟨0, 0, by omega, rfl, rfl, rfl⟩
  case round =>
    obtain ⟨i, d, hi, rfl, rfl, ht⟩ := hrel
    have HT := Lib.hid ht
    clear ht
    by_cases hlt : i < n
    · obtain ⟨r, hr⟩ : ∃ r, l[i]? = some r := ⟨_, List.getElem?_eq_getElem (by omega)⟩
      obtain ⟨s, hs⟩ : ∃ s, m[i]? = some s := ⟨_, List.getElem?_eq_getElem (by omega)⟩
      obtain ⟨b1, o1, rfl, _, x0, x1, x2, x3, x4⟩ := HA.out.at i r hr
      obtain ⟨b2, o2, rfl, _, y0, y1, y2, y3, y4⟩ := HB.out.at i s hs
      have HR := Lib.hid hr
      have HS := Lib.hid hs
      clear hr hs
      by_cases he : r = s
      · subst he
        have heq : ∀ w, _ := fun w => Tryz.eq_row r r w
        rw [decide_eq_true rfl] at heq
        go_wp2_with (fail)
        go_quiet (fail)
        go_wp2_with (fail)
        go_roundw
        case rel => exact ⟨i + 1, _, by omega, by go_num, rfl, by rw [take_snoc HR.out, take_snoc HS.out, HT.out]⟩
        case measure => simp [intOf]; omega
      · have heq : ∀ w, _ := fun w => Tryz.eq_row r s w
        rw [decide_eq_false he] at heq
        go_wp2_with (fail)
        go_quiet (fail)
        go_wp2_with (fail)
        go_ret
        have hne : ¬ l = m := fun e => he (by have h1 := HR.out; rw [e, HS.out] at h1; exact (Option.some.inj h1).symm)
        exact ⟨ret_b (decide_eq_false hne).symm, _, World.drewN_drewN _ _ _⟩
    · obtain rfl : i = n := by omega
      have hE : l = m := by
        have := HT.out
        rwa [List.take_of_length_le (by omega), List.take_of_length_le (by omega)] at this
      go_wp2_with (fail)
      go_ret
      exact ⟨ret_b (decide_eq_true hE).symm, _, rfl⟩
/-- the places of rows -/
def atsOf (l : List RowV) : List Int := l.map (·.a)
theorem ats_get {l : List RowV} {i : Nat} {r : RowV} (h : l[i]? = some r) : ith (atsOf l) i = r.a := by
  unfold ith atsOf
  rw [List.getD_eq_getElem?_getD, List.getElem?_map, h]
  rfl
theorem dropR_cons {α : Type} {l : List α} {i : Nat} {r : α} (h : l[i]? = some r) : l.drop i = r :: l.drop (i + 1) := by
  obtain ⟨h1, h2⟩ := List.getElem?_eq_some_iff.1 h
  rw [List.drop_eq_getElem_cons h1, h2]
theorem row_cells {W : World} {o : Nat} {r : RowV} {t : Nat} (h : W.heap[o]? = some (.cells #[.int .i64 r.a, .int .i64 r.len, .int .u8 r.level, .int .i64 r.wide, .int .i8 r.fin] t (0, 0))) : W.cell? ⟨o, 0, none⟩ = some (.int .i64 r.a) := by
  simp [World.cell?, h]
set_option maxHeartbeats 1000000 in
theorem At_any (pa : Option Addr) (ca n : Nat) (l : List RowV) (hn : l.length = n) (hz : n ≤ 2097152) (c cx : Int) (back : Bool) (w : World) (ha : RdR w pa l) :
    Calls Tryz.prog 14 #[.slice pa n ca, .agg #[.int .i64 c, .bool back, .int .i64 cx]] w fun e w' => e = .returned (.int .i64 (atI (atsOf l) c back)) ∧ Below w.heap.size w w' := by
  obtain ⟨V, hV⟩ : ∃ V, atI (atsOf l) c back = V := ⟨_, rfl⟩
  rw [hV]
  unfold atI at hV
  obtain ⟨K, hK⟩ : ∃ K, atG c (atsOf l) 0 (-1) = K := ⟨_, rfl⟩
  rw [hK] at hV
  have hal : (atsOf l).length = n := by unfold atsOf; rw [List.length_map, hn]
  have hKs : (K = -1 ∧ n = 0) ∨ ∃ k : Nat, K = k ∧ k < n := by
    obtain ⟨h1, _⟩ := atG_spec c (atsOf l) (atsOf l) 0 (-1) rfl (by omega)
    rw [hK] at h1
    rcases h1 with ⟨e, h | h⟩ | ⟨k, e, _, h, _⟩
    · omega
    · exact .inl ⟨e, by rw [← hal, h]; rfl⟩
    · exact .inr ⟨k, e, by omega⟩
  have HV := Lib.hid hV
  have HK := Lib.hid hK
  have HKS := Lib.hid hKs
  have HA := Lib.hid ha
  clear hV hK hKs ha hal
  go_enter Tryz.func14, Tryz.ntmps14
  go_upto_region 1 with (fail)
  have hb0 : Below w.heap.size w (w.alloc (.cells #[.int .i64 c, .bool back, .int .i64 cx] 34)) := (Below.refl _ _).alloc (Nat.le_refl _) _
  have hx0 : (w.alloc (.cells #[.int .i64 c, .bool back, .int .i64 cx] 34)).heap[w.heap.size]? = some (.cells #[.int .i64 c, .bool back, .int .i64 cx] 34 (0, 0)) := World.alloc_heap_new w _
  have hW0 : w.heap.size < (w.alloc (.cells #[.int .i64 c, .bool back, .int .i64 cx] 34)).heap.size := by rw [World.size_alloc]; omega
  generalize w.alloc (.cells #[.int .i64 c, .bool back, .int .i64 cx] 34) = W0 at hb0 hx0 hW0 ⊢
  have HB0 := Lib.hid hb0
  have HX0 := Lib.hid hx0
  clear hb0 hx0
  go_upto_region 3 with (fail)
  go_wp2_with (fail)
  go_loopw [5, 10] (fun u5 u10 wx => ∃ (i : Nat) (k : Int), i ≤ n ∧ u10 = .int .i64 i ∧ u5 = .int .i64 k ∧ atG c (atsOf (l.drop i)) i k = K ∧ Below w.heap.size w wx ∧ wx.heap[w.heap.size]? = some (.cells #[.int .i64 c, .bool back, .int .i64 cx] 34 (0, 0))) (fun _ u10 _ => n - (intOf u10).toNat)
  case atStart => exact ⟨0, -1, by omega, rfl, rfl, HK.out, HB0.out, HX0.out⟩
  case round =>
    obtain ⟨i, k, hi, rfl, rfl, hG, hbr, hxr⟩ := hrel
    have c0 : wr.cell? ⟨w.heap.size, 0, none⟩ = some (.int .i64 c) := by simp [World.cell?, hxr]
    have c1 : wr.cell? ⟨w.heap.size, 1, none⟩ = some (.bool back) := by simp [World.cell?, hxr]
    have hwr : w.heap.size < wr.heap.size := (Array.getElem?_eq_some_iff.1 hxr).1
    have HBR := Lib.hid hbr
    have HXR := Lib.hid hxr
    have HG := Lib.hid hG
    clear hbr hxr hG
    by_cases hlt : i < n
    · obtain ⟨r, hr⟩ : ∃ r, l[i]? = some r := ⟨_, List.getElem?_eq_getElem (by omega)⟩
      obtain ⟨b1, o1, rfl, _, x0, x1, x2, x3, x4⟩ := (HA.out.below HBR.out).at i r hr
      have HR := Lib.hid hr
      clear hr
      go_upto_region 5 with (fail)
      have hbx : Below wr.heap.size wr (wr.alloc (.cells #[.int .i64 r.a, .int .i64 r.len, .int .u8 r.level, .int .i64 r.wide, .int .i8 r.fin] 30)) := (Below.refl _ _).alloc (Nat.le_refl _) _
      have hx5 : (wr.alloc (.cells #[.int .i64 r.a, .int .i64 r.len, .int .u8 r.level, .int .i64 r.wide, .int .i8 r.fin] 30)).heap[wr.heap.size]? = some (.cells #[.int .i64 r.a, .int .i64 r.len, .int .u8 r.level, .int .i64 r.wide, .int .i8 r.fin] 30 (0, 0)) := World.alloc_heap_new wr _
      generalize wr.alloc (.cells #[.int .i64 r.a, .int .i64 r.len, .int .u8 r.level, .int .i64 r.wide, .int .i8 r.fin] 30) = W5 at hbx hx5 ⊢
      have z0 := row_cells hx5
      have y0 : W5.cell? ⟨w.heap.size, 0, none⟩ = some (.int .i64 c) := cell_bl hbx hwr c0
      have hb5 : Below w.heap.size w W5 := HBR.out.trans (hbx.mono (by omega))
      have hx6 : W5.heap[w.heap.size]? = some (.cells #[.int .i64 c, .bool back, .int .i64 cx] 34 (0, 0)) := (hbx.block _ hwr).trans HXR.out
      have hG : atG c (atsOf (l.drop (i + 1))) (i + 1) (if r.a ≤ c ∨ i = 0 then (i : Int) else k) = K := by
        have := HG.out
        rw [dropR_cons HR.out] at this
        exact this
      have HB5 := Lib.hid hb5
      have HX6 := Lib.hid hx6
      clear hbx hx5 c0 c1 x0 x1 x2 x3 x4 hb5 hx6 HG
      by_cases h1 : r.a ≤ c
      · rw [if_pos (.inl h1)] at hG
        have HG := Lib.hid hG
        clear hG
        go_wp2_with (fail)
        go_roundw
        case rel => exact ⟨i + 1, i, by omega, by go_num, rfl, HG.out, HB5.out, HX6.out⟩
        case measure => simp [intOf]; omega
      · by_cases h2 : i = 0
        · subst h2
          rw [if_pos (.inr rfl)] at hG
          have HG := Lib.hid hG
          clear hG
          go_wp2_with (fail)
          go_roundw
          case rel => exact ⟨0 + 1, 0, by omega, by go_num, rfl, HG.out, HB5.out, HX6.out⟩
          case measure => simp [intOf]; omega
        · rw [if_neg (fun h => h.elim h1 h2)] at hG
          have HG := Lib.hid hG
          have c2 : ((i : Int) == 0) = false := by rw [beq_eq_false_iff_ne]; omega
          clear hG
          go_wp2_with (fail)
          go_roundw
          case rel => exact ⟨i + 1, k, by omega, by go_num, rfl, HG.out, HB5.out, HX6.out⟩
          case measure => simp [intOf]; omega
    · obtain rfl : i = n := by omega
      have hk : k = K := by
        have := HG.out
        rwa [List.drop_eq_nil_of_le (by omega)] at this
      subst hk
      go_upto_region 8 with (fail)
      by_cases hB : back = true ∧ 0 < k
      · obtain ⟨rfl, hk0⟩ := hB
        obtain ⟨j, rfl, hj⟩ : ∃ j : Nat, k = j ∧ j < l.length := by
          rcases HKS.out with ⟨h, _⟩ | ⟨j, h1, h2⟩
          · omega
          · exact ⟨j, h1, by omega⟩
        obtain ⟨r, hr⟩ : ∃ r, l[j]? = some r := ⟨_, List.getElem?_eq_getElem hj⟩
        obtain ⟨b1, o1, rfl, _, x0, _⟩ := (HA.out.below HBR.out).at j r hr
        have g1 : 0 < j := by omega
        have hjn : j < i := by omega
        have hat := ats_get hr
        by_cases he : r.a = c
        · subst he
          have hv := HV.out
          rw [Int.toNat_natCast, hat, if_pos ⟨rfl, by omega, rfl⟩] at hv
          have HV2 := Lib.hid hv
          clear hv HV hr hat
          go_quiet (fail)
          go_wp2_with (fail)
          go_ret
          exact ⟨ret_i HV2.out, bl_drewN HBR.out _⟩
        · have c2 : (r.a == c) = false := by simpa using he
          have hv := HV.out
          rw [Int.toNat_natCast, hat, if_neg (fun h => he h.2.2)] at hv
          have HV2 := Lib.hid hv
          clear hv HV hr hat
          go_quiet (fail)
          go_wp2_with (fail)
          go_ret
          exact ⟨ret_i HV2.out, bl_drewN HBR.out _⟩
      · have hv := HV.out
        rw [if_neg (fun h => hB ⟨h.1, h.2.1⟩)] at hv
        have HV2 := Lib.hid hv
        clear hv HV
        cases back with
        | false =>
          clear hB
          go_quiet (fail)
          go_wp2_with (fail)
          go_ret
          exact ⟨ret_i HV2.out, bl_drewN HBR.out _⟩
        | true =>
          have g1 : ¬ k > 0 := fun h => hB ⟨rfl, h⟩
          clear hB
          go_quiet (fail)
          go_wp2_with (fail)
          go_ret
          exact ⟨ret_i HV2.out, bl_drewN HBR.out _⟩
end Go.Proofs.YtphlhnkenehnnaaGreatDoor
