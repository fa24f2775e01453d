/- Contracts of (*row.laid).levels, scan.Bad, join.Shaped; laws of drawn regions; what a laid row is. -/
import Derived.Test.YtlbclfmbejjneaaGreatDoorFindB
import Derived.Test.YtlbclfmbejjneaaGreatDoorRunesC
import Derived.Test.YtlbclfmbejjneaaGreatDoorRuneV
import Derived.Lib.OthersKept
import Derived.Test.YtlbclfmbejjneaaGreatDoorTables
import Derived.Test.YtlbclfmbejjneaaGreatDoorV7
import Derived.Test.YtlbclfmbejjneaaGreatDoorWhereB
import Derived.Test.YtlbclfmbejjneaaGreatDoorRqL
import Derived.Test.YtlbclfmbejjneaaGreatDoorPlainR
namespace Go.Proofs.YtlbclfmbejjneaaGreatDoor
section
set_option linter.unusedVariables false
set_option linter.unusedSimpArgs false
open Go.RowKit Go.Proofs Go.Shelf
attribute [local go_sem] Oper.semAt_some

theorem bl_set {b : Nat} {A W : World} (h : Below b A W) (i : Nat) (v : Value) : Below b A (W.setCell ⟨b, i, none⟩ v) := h.setCell (p := ⟨b, i, none⟩) (Nat.le_refl _) v
/-- what stands while levels are told -/
structure LvS (w : World) (b : Nat) (lv sv : Value) (fr tt bs : Nat) (wide : Int) (M : List Pc) (cg : Nat) (cs : List Int) (vb : Nat) (va : Option Addr) (vc : Nat) (vs : List Int) (W : World) : Prop where
  ld : LdB W b lv sv fr tt bs wide
  own : OwnS pcE 75 W (b + 1) lv M
  rd : Rd .i32 W (some ⟨cg, 0, none⟩) cs
  vo : OutAt .u8 5 W vb va vc vs
  bel : Below b w W
section
variable {w W W' : World} {b : Nat} {lv sv : Value} {fr tt bs : Nat} {wide : Int} {M : List Pc} {cg : Nat} {cs : List Int} {vb : Nat} {va : Option Addr} {vc : Nat} {vs : List Int}
theorem LvS.below (h : LvS w b lv sv fr tt bs wide M cg cs vb va vc vs W) (hb : Below W.heap.size W W') : LvS w b lv sv fr tt bs wide M cg cs vb va vc vs W' :=
  ⟨h.ld.below hb h.ld.lt, h.own.keep hb, h.rd.below hb, h.vo.keep hb, h.bel.trans (hb.mono (Nat.le_of_lt h.ld.lt))⟩
theorem LvS.drew (h : LvS w b lv sv fr tt bs wide M cg cs vb va vc vs W) : LvS w b lv sv fr tt bs wide M cg cs vb va vc vs W.drew := ⟨h.ld, h.own, h.rd, h.vo, h.bel.drew⟩
end
/-- what stands while one level is told -/
structure LwS (w : World) (b G cap : Nat) (sv : Value) (fr tt bs : Nat) (wide : Int) (M : List Pc) (i : Nat) (p : Pc) (P : Nat) (oa : Option Addr) (oc : Nat) (own : List Int) (W : World) : Prop where
  ld : LdB W b (.slice (some ⟨G, 0, none⟩) M.length cap) sv fr tt bs wide
  row : ∃ y : Nat, OwnS pcE 75 W (b + 1) (.slice (some ⟨G, 0, none⟩) M.length cap) (M.set i { p with level := y })
  box : W.heap[P]? = some (.cells #[.int .i64 p.a, .int .i64 p.size, .int .i64 p.c0, .int .i64 p.c1, .int .u8 p.level, .string p.became, .string p.shown, .int .i64 p.wide, .int .i64 p.e0, .int .i64 p.e1] 75 (0, 0))
  out : OutAt .u8 5 W (b + 1) oa oc own
  bel : Below b w W
theorem LwS.drew {w : World} {b G cap : Nat} {sv : Value} {fr tt bs : Nat} {wide : Int} {M : List Pc} {i : Nat} {p : Pc} {P : Nat} {oa : Option Addr} {oc : Nat} {own : List Int} {W : World} (h : LwS w b G cap sv fr tt bs wide M i p P oa oc own W) : LwS w b G cap sv fr tt bs wide M i p P oa oc own W.drew := ⟨h.ld, h.row, h.box, h.out, h.bel.drew⟩
theorem LwS.set {w : World} {b G cap : Nat} {sv : Value} {fr tt bs : Nat} {wide : Int} {M : List Pc} {i : Nat} {p : Pc} {P : Nat} {oa : Option Addr} {oc : Nat} {own : List Int} {W : World} (h : LwS w b G cap sv fr tt bs wide M i p P oa oc own W) (hi : i < M.length) (hP : G ≠ P) (x : Nat) :
    LwS w b G cap sv fr tt bs wide M i p P oa oc own (W.setCell ⟨G, i * 10 + 4, none⟩ (.int .u8 x)) := by
  obtain ⟨h1, ⟨y, h2⟩, h3, h4, h5⟩ := h
  have hG := World.ownsRow.lt h2 G rfl
  have hml : (M.set i { p with level := y }).length = M.length := List.length_set
  have hge : (M.set i { p with level := y })[i]? = some { p with level := y } := by rw [List.getElem?_set]; simp [hi]
  refine ⟨box_other h1 (by omega), ⟨x, ?_⟩, box_other h3 (fun e => hP e.symm), ?_, h5.trans ((Below.refl _ W).setCell (p := ⟨G, i * 10 + 4, none⟩) (show b ≤ G by omega) _)⟩
  · have := OwnS.set (cap := cap) (by rw [hml]; exact h2) i _ { p with level := x } hge 4 (.int .u8 x) (by decide) rfl
    rw [List.set_set, List.length_set] at this
    exact this
  · refine row_other h4 (fun g hg e => ?_)
    subst e
    rcases h4.2 with ⟨e1, _⟩ | ⟨g', c', cur, e1, _, hb, _⟩
    · rw [e1] at hg; cases hg
    · rw [e1] at hg
      have : g' = g := Option.some.inj hg
      subst this
      rcases h2.2 with ⟨e2, _⟩ | ⟨g2, c2, cur2, e2, _, hb2, _⟩
      · simp at e2
      · simp only [Value.slice.injEq, Option.some.injEq, Addr.mk.injEq] at e2
        obtain ⟨⟨rfl, _⟩, _⟩ := e2
        rw [hb] at hb2
        cases hb2
theorem LwS.rowx {w : World} {b G cap : Nat} {sv : Value} {fr tt bs : Nat} {wide : Int} {M : List Pc} {i : Nat} {p : Pc} {P : Nat} {oa : Option Addr} {oc : Nat} {own : List Int} {W : World} (h : LwS w b G cap sv fr tt bs wide M i p P oa oc own W) (hi : i < M.length) (x : Nat) :
    OwnS pcE 75 (W.setCell ⟨G, i * 10 + 4, none⟩ (.int .u8 x)) (b + 1) (.slice (some ⟨G, 0, none⟩) M.length cap) (M.set i { p with level := x }) := by
  obtain ⟨h1, ⟨y, h2⟩, h3, h4, h5⟩ := h
  have hml : (M.set i { p with level := y }).length = M.length := List.length_set
  have hge : (M.set i { p with level := y })[i]? = some { p with level := y } := by rw [List.getElem?_set]; simp [hi]
  have := OwnS.set (cap := cap) (by rw [hml]; exact h2) i _ { p with level := x } hge 4 (.int .u8 x) (by decide) rfl
  rw [List.set_set, List.length_set] at this
  exact this
theorem lastC_get {L : List Pc} {n : Nat} {p : Pc} (hn : L.length = n + 1) (h : L[n]? = some p) : lastC L = p.c1 := by
  unfold lastC
  rw [List.getLastD_eq_getLast?, List.getLast?_eq_getElem?, hn, Nat.add_sub_cancel, h]
  rfl
theorem out_addr {k : IntKind} {e base cap : Nat} {w : World} {ao : Option Addr} {out : List Int} (h : OutAt k e w base ao cap out) : (ao = none ∧ cap = 0) ∨ ∃ G o, ao = some ⟨G, o, none⟩ := by
  rcases h.2 with ⟨h1, h0⟩ | ⟨g, cap', cur, h1, _⟩
  · simp only [Value.slice.injEq] at h1
    exact .inl ⟨h1.1, h1.2.2⟩
  · simp only [Value.slice.injEq] at h1
    exact .inr ⟨g, 0, h1.1⟩
/-- the levels given so far -/
def lvP (own : List Nat) (L : List Pc) (i : Nat) : List Pc := (L.take i).map (levelP own) ++ L.drop i
theorem lvP_zero (own : List Nat) (L : List Pc) : lvP own L 0 = L := by unfold lvP; simp
theorem lvP_all (own : List Nat) (L : List Pc) : lvP own L L.length = L.map (levelP own) := by unfold lvP; simp
theorem lvP_len (own : List Nat) (L : List Pc) (i : Nat) (h : i ≤ L.length) : (lvP own L i).length = L.length := by unfold lvP; simp; omega
theorem lvP_get (own : List Nat) (L : List Pc) (i : Nat) (p : Pc) (h : L[i]? = some p) : (lvP own L i)[i]? = some p := by
  have hl := (List.getElem?_eq_some_iff.1 h).1
  unfold lvP
  rw [List.getElem?_append_right (by simp; omega)]
  simp only [List.length_map, List.length_take]
  rw [List.getElem?_drop, show i + (i - min i L.length) = i by omega]
  exact h
theorem lvP_next (own : List Nat) (L : List Pc) (i : Nat) (p : Pc) (h : L[i]? = some p) : (lvP own L i).set i (levelP own p) = lvP own L (i + 1) := by
  have hl := (List.getElem?_eq_some_iff.1 h).1
  unfold lvP
  have h1 : (List.map (levelP own) (L.take i)).length = i := by simp; omega
  rw [List.set_append_right _ _ (by omega), h1, Nat.sub_self, List.take_add_one, h, List.map_append, dropR_cons h, List.set_cons_zero, List.append_assoc]
  rfl
set_option maxRecDepth 100000 in
set_option maxHeartbeats 2000000 in
theorem rLev_any (s : ByteArray) (hs : s.size ≤ 2097152) (tab want : Int) (wideA join raw : Bool) (b : Nat) (lv sv : Value) (fr tt : Nat) (wide : Int) (L : List Pc) (w : World) (hL : LdB w b lv sv fr tt 0 wide) (hO : OwnS pcE 75 w (b + 1) lv L) (hfr : fr ≤ s.size)
    (hn : L.length ≤ 2097152) (hc : ∀ (i : Nat) (p : Pc), L[i]? = some p → p.c0 < lastC L) (hlast : (runesI (s.extract 0 fr)).length + lastC L ≤ (runesI s).length) :
    Calls Tryz.prog 49 #[.pointer (some ⟨b, 0, none⟩), .string s, lookV tab want wideA join raw] w fun e w' => e = .returned (.tuple #[]) ∧
      LdB w' b lv sv fr tt (baseR s want raw) wide ∧ OwnS pcE 75 w' (b + 1) lv (levelsI s want raw fr L) ∧ Below b w w' := by
  cases raw with
  | true =>
    have hbs : b < w.heap.size := hL.lt
    go_enter Tryz.func49, Tryz.ntmps49
    go_upto_region 1 with (fail)
    have hb0 : Below w.heap.size w (w.alloc (.cells #[.int .i64 tab, .bool wideA, .int .i8 want, .bool join, .bool true] 26)) := (Below.refl _ _).alloc (Nat.le_refl _) _
    have hx0 := World.alloc_heap_new w (.cells #[.int .i64 tab, .bool wideA, .int .i8 want, .bool join, .bool true] 26)
    generalize w.alloc (.cells #[.int .i64 tab, .bool wideA, .int .i8 want, .bool join, .bool true] 26) = W0 at hb0 hx0 ⊢
    have hs0 : w.heap.size < W0.heap.size := (Array.getElem?_eq_some_iff.1 hx0).1
    have l2 : W0.cell? ⟨w.heap.size, 2, none⟩ = some (.int .i8 want) := by simp [World.cell?, hx0]
    have l4 : W0.cell? ⟨w.heap.size, 4, none⟩ = some (.bool true) := by simp [World.cell?, hx0]
    have h0 : LdB W0 b lv sv fr tt 0 wide := hL.below hb0 hbs
    have o0 := hO.keep hb0
    have HB0 := Lib.hid hb0
    clear hb0 hx0 hL hO
    go_wp2_with (fail)
    exact bodyPost_ret (results_none rfl _ _ _) rfl ⟨rfl, h0, o0, HB0.out.mono (by omega)⟩
  | false =>
    obtain ⟨V, hV⟩ : ∃ V, visualI (runesI s) want = V := ⟨_, rfl⟩
    obtain ⟨bs, hbs0⟩ : ∃ bs : Nat, V.2 = bs := ⟨V.2.toNat, by rw [← hV]; unfold visualI; rcases baseF_bd want (((runesI s).map dirI).length + 1) ((runesI s).map dirI) with h | h <;> (unfold baseI; dsimp only; omega)⟩
    have hbR : baseR s want false = bs := by unfold baseR; rw [if_neg (by decide), hV, hbs0]; rfl
    have hlR : levelsI s want false fr L = L.map (levelP (ownLv s want fr (lastC L))) := by unfold levelsI; rw [if_neg (by decide)]
    rw [hbR, hlR]
    clear hbR hlR
    have hbs : b < w.heap.size := hL.lt
    go_enter Tryz.func49, Tryz.ntmps49
    go_upto_region 1 with (fail)
    have hb0 : Below w.heap.size w (w.alloc (.cells #[.int .i64 tab, .bool wideA, .int .i8 want, .bool join, .bool false] 26)) := (Below.refl _ _).alloc (Nat.le_refl _) _
    have hx0 := World.alloc_heap_new w (.cells #[.int .i64 tab, .bool wideA, .int .i8 want, .bool join, .bool false] 26)
    generalize w.alloc (.cells #[.int .i64 tab, .bool wideA, .int .i8 want, .bool join, .bool false] 26) = W0 at hb0 hx0 ⊢
    have hs0 : w.heap.size < W0.heap.size := (Array.getElem?_eq_some_iff.1 hx0).1
    have l2 : W0.cell? ⟨w.heap.size, 2, none⟩ = some (.int .i8 want) := by simp [World.cell?, hx0]
    have l4 : W0.cell? ⟨w.heap.size, 4, none⟩ = some (.bool false) := by simp [World.cell?, hx0]
    have h0 : LdB W0 b lv sv fr tt 0 wide := hL.below hb0 hbs
    have o0 := hO.keep hb0
    have HB0 := Lib.hid hb0
    clear hb0 hx0 hL hO
    obtain ⟨cs, hcs⟩ : ∃ cs, runesI s = cs := ⟨_, rfl⟩
    have hcn : cs.length ≤ 2097152 := by rw [← hcs]; have := runesI_len s; omega
    rw [hcs] at hV
    have HRU : Hid (∀ W : World, Calls Tryz.prog 76 #[.string s] W fun e w' => ∃ c, e = .returned (.slice (some ⟨W.heap.size, 0, none⟩) cs.length c) ∧ Rd .i32 w' (some ⟨W.heap.size, 0, none⟩) cs ∧ cs.length ≤ c ∧ c ≤ 9223372036854775807 ∧ Below W.heap.size W w') := Lib.hid fun W => hcs ▸ Runes_at s hs W
    go_upto_region 3 with (go_at_call 76; refine (HRU.out _).mono ?_; rintro e w1 ⟨cc, rfl, hrd1, hc1, hc2, hb1⟩)
    obtain ⟨cg, hcg⟩ : ∃ cg, W0.heap.size = cg := ⟨_, rfl⟩
    have hcgb : b < cg := by omega
    rw [hcg] at hrd1
    have hT1 : W0.heap.size ≤ w1.heap.size := hb1.size
    have m2 := cell_bl hb1 hs0 l2
    have h1 := h0.below hb1 (by omega)
    have o1 := o0.keep hb1
    have HVL := Lib.hid (VLevels_any (some ⟨cg, 0, none⟩) cs cs.length cc want w1 rfl hrd1 hcn hc1 hc2)
    have hb01 := HB0.out.trans (hb1.mono (by omega))
    have HB1 := Lib.hid hb01
    have HRD1 := Lib.hid hrd1
    clear l2 l4 h0 o0 hb1 hb01 hrd1 HB0 HRU
    go_upto_region 4 with (go_at_call 77; refine HVL.out.mono ?_; rintro e w2 ⟨va, vc, rfl, hvl, hvo, hb2⟩)
    rw [hV] at hvl hvo
    have h2 := h1.below hb2 (by omega)
    have o2 := o1.keep hb2
    have hb02 := HB1.out.trans (hb2.mono (by omega))
    have HRD2 := Lib.hid (HRD1.out.below (hb2))
    obtain ⟨la, lcap, hlv, hlcap, _⟩ := o2.slice
    subst hlv
    have d0 := h2.cells.1
    have d2 := h2.cells.2.2.1
    have d4 := h2.cells.2.2.2.2.1
    have f4 := h2.frz 4
    have HVO := Lib.hid hvo
    have HVL' := Lib.hid hvl
    have HB2 := Lib.hid hb02
    have H2 := Lib.hid h2
    have O2 := Lib.hid o2
    have hs2 := hb2.size
    clear m2 h1 o1 hb2 hvo hvl hb02 h2 o2 HRD1 HB1 HVL
    go_upto_region 5 with (fail)
    have h3 : LdB (w2.setCell ⟨b, 4, none⟩ (.int .u8 bs)) b (.slice la L.length lcap) sv fr tt bs wide := H2.out.set4 bs
    have o3 : OwnS pcE 75 (w2.setCell ⟨b, 4, none⟩ (.int .u8 bs)) (b + 1) (.slice la L.length lcap) L := O2.out.other (fun g hg => by
      have := World.ownsRow.lt O2.out g hg
      omega)
    have hb3 : Below b w (w2.setCell ⟨b, 4, none⟩ (.int .u8 bs)) := bl_set (HB2.out.mono (by omega)) _ _
    have hrd3 : Rd .i32 (w2.setCell ⟨b, 4, none⟩ (.int .u8 bs)) (some ⟨cg, 0, none⟩) cs := rd_set HRD2.out (by omega)
    have hvo3 : OutAt .u8 5 (w2.setCell ⟨b, 4, none⟩ (.int .u8 bs)) w1.heap.size va vc (ints V.1) := row_other HVO.out (fun g hg => by have := World.ownsRow.lt HVO.out g hg; omega)
    have hs3 : w2.heap.size ≤ (w2.setCell ⟨b, 4, none⟩ (.int .u8 bs)).heap.size := (KeepsWalks.setCell _ _ _).size
    clear d0 d2 d4 f4 HVO HRD2 HB2 H2 O2
    generalize w2.setCell ⟨b, 4, none⟩ (.int .u8 bs) = W3 at h3 o3 hb3 hrd3 hvo3 hs3 ⊢
    have d0 := h3.cells.1
    have d2 := h3.cells.2.2.1
    by_cases hL0 : L = []
    · subst hL0
      have H3 := Lib.hid h3
      have O3 := Lib.hid o3
      have HB3 := Lib.hid hb3
      clear h3 o3 hb3 hrd3 hvo3 hc hlast
      go_wp2_with (fail)
      exact bodyPost_ret (results_none rfl _ _ _) rfl ⟨rfl, H3.out, O3.out, HB3.out⟩
    have hLpos : 0 < L.length := List.length_pos_iff.2 hL0
    obtain ⟨n, hn1⟩ : ∃ n, L.length = n + 1 := ⟨L.length - 1, by omega⟩
    obtain ⟨lp, hlp⟩ : ∃ lp, L[n]? = some lp := ⟨_, List.getElem?_eq_getElem (by omega)⟩
    have hlc := lastC_get hn1 hlp
    obtain ⟨F, hF⟩ : ∃ F, (runesI (s.extract 0 fr)).length = F := ⟨_, rfl⟩
    have HCT : Hid (∀ W : World, Calls Tryz.prog 75 #[.string (s.extract 0 fr)] W fun e w' => e = .returned (.int .i64 F) ∧ Below W.heap.size W w') := Lib.hid fun W => hF ▸ sCount_any (s.extract 0 fr) (by simp [ByteArray.size_extract]; omega) W
    rw [hF, hcs, hlc] at hlast
    obtain ⟨own, hown, hownl⟩ := rowI_some cs V.1 bs F lp.c1 hlast HVL'.out
    rw [Int.natCast_add] at hown
    have hownLv : ownLv s want fr (lastC L) = own := by
      unfold ownLv
      rw [hcs, hV, hbs0, hF, hlc, Int.toNat_natCast, Int.natCast_add, hown]
      rfl
    have HOWN := Lib.hid hownLv
    have HLC := Lib.hid hlc
    have hLS : LvS w b (.slice la L.length lcap) sv fr tt bs wide L cg cs w1.heap.size va vc (ints V.1) W3 := ⟨h3, o3, hrd3, hvo3, hb3⟩
    have HLS := Lib.hid hLS
    have hfs : (fr : Int) ≤ (s.size : Int) := by omega
    have hci : ∀ (i : Nat) (p : Pc), L[i]? = some p → p.c0 < lp.c1 := fun i p hp => by have := hc i p hp; rw [hlc] at this; exact this
    have HCI := Lib.hid hci
    have HRN := Lib.hid hown
    have hFb : (F : Int) ≤ 2097152 := by omega
    have hFl : (lp.c1 : Int) ≤ 2097152 := by omega
    have hVLl := HVL'.out
    have HVLl := Lib.hid hVLl
    have hvcap := own_slice2 hvo3
    rw [ints_len, hVLl] at hvcap
    have hvadr := out_addr hvo3
    have HVA := Lib.hid hvadr
    have HVC := Lib.hid hvcap
    clear h3 o3 hrd3 hvo3 hb3 hLS hownLv hlc hc hci hown hVLl HVL' hL0 hF hvcap hvadr hbs0 hV hcs
    have cL : ((((n + 1 : Nat)) : Int) == 0) = false := by rw [beq_eq_false_iff_ne]; omega
    have cL2 : ((n : Int) + 1 == 0) = false := by rw [beq_eq_false_iff_ne]; omega
    rw [hn1] at d0
    go_upto_region 7 with (go_at_call 75; refine (HCT.out _).mono ?_; rintro e w4 ⟨rfl, hb4⟩)
    have hLS4 := HLS.out.below hb4
    clear d0 d2 hb4 HLS HCT
    obtain ⟨G, hG, hGb, hGl, hcell, hfz⟩ := hLS4.own.at n lp hlp
    subst hG
    have HKC : Hid (∀ W, LvS w b (.slice (some ⟨G, 0, none⟩) L.length lcap) sv fr tt bs wide L cg cs w1.heap.size va vc (ints V.1) W → W.cell? ⟨b, 0, none⟩ = some (.slice (some ⟨G, 0, none⟩) (n + 1) lcap) ∧ W.cell? ⟨G, n * 10 + 3, none⟩ = some (.int .i64 lp.c1) ∧ LvS w b (.slice (some ⟨G, 0, none⟩) L.length lcap) sv fr tt bs wide L cg cs w1.heap.size va vc (ints V.1) W) :=
      Lib.hid fun W h => ⟨hn1 ▸ h.ld.cells.1, (by
        obtain ⟨G', e, _, _, hc', _⟩ := h.own.at n lp hlp
        cases e
        exact hc' 3 _ rfl), h⟩
    have HROW : Hid (∀ W, LvS w b (.slice (some ⟨G, 0, none⟩) L.length lcap) sv fr tt bs wide L cg cs w1.heap.size va vc (ints V.1) W →
        Calls Tryz.prog 78 #[.slice (some ⟨cg, 0, none⟩) cs.length cc, .slice va cs.length vc, .int .u8 bs, .int .i64 F, .int .i64 ((F : Int) + lp.c1)] W fun e w' => ∃ oa oc, e = .returned (.slice oa own.length oc) ∧ OutAt .u8 5 w' (b + 1) oa oc (ints own) ∧
          LvS w b (.slice (some ⟨G, 0, none⟩) L.length lcap) sv fr tt bs wide L cg cs w1.heap.size va vc (ints V.1) w') :=
      Lib.hid fun W h => (Row_any (some ⟨cg, 0, none⟩) va cs V.1 cs.length cs.length cc vc bs F ((F : Int) + lp.c1) W rfl HVLl.out h.rd h.vo.rd hcn hcn HVC.out.1 (by have := HVC.out.2; unfold maxLen at this; omega) HVA.out).mono fun e w' hp => by
        rw [HRN.out] at hp
        obtain ⟨hb, a, c, he, ho⟩ := hp
        exact ⟨a, c, he, own_mono ho (by have := h.ld.lt; omega), h.below hb⟩
    obtain ⟨k0, k3, hL4⟩ := HKC.out _ hLS4
    have hn2 : (n : Int) ≤ 2097152 := by omega
    have i1 : IntKind.i64.wrap ((n : Int) + 1 - 1) = (n : Int) := by rw [IntKind.wrap_i64]; omega
    have i2 : IntKind.i64.wrap (((n + 1 : Nat) : Int) - 1) = (n : Int) := by rw [IntKind.wrap_i64]; omega
    have i3 : IntKind.i64.wrap ((F : Int) + (lp.c1 : Int)) = (F : Int) + (lp.c1 : Int) := by rw [IntKind.wrap_i64]; omega
    have i0 : IntKind.i64.wrap (n : Int) = (n : Int) := by rw [IntKind.wrap_i64]; omega
    have i4 : (0 : Int) ≤ (n : Int) := by omega
    have i5 : (n : Int) < (n : Int) + 1 := by omega
    have i6 : (n : Int) < ((n + 1 : Nat) : Int) := by omega
    clear hLS4 hcell hfz HVLl HVA HVC HRN
    go_region_held3 (fun w' => w'.cell? ⟨b, 0, none⟩ = some (.slice (some ⟨G, 0, none⟩) (n + 1) lcap) ∧ w'.cell? ⟨G, n * 10 + 3, none⟩ = some (.int .i64 lp.c1) ∧ LvS w b (.slice (some ⟨G, 0, none⟩) L.length lcap) sv fr tt bs wide L cg cs w1.heap.size va vc (ints V.1) w')
      ((refine HKC.out _ ?_; repeat (first | assumption | refine LvS.drew ?_)))
      ((go_at_call 78; refine (HROW.out _ (by repeat (first | assumption | refine LvS.drew ?_))).mono ?_; rintro e w5 ⟨oa, oc, rfl, ho5, hL5⟩))
    have HL5 := Lib.hid hL5
    have HO5 := Lib.hid ho5
    clear hL5 ho5 k0 k3 hL4 HROW i0 i1 i2 i3 i4 i5 i6
    have hl5 := HL5.out.ld
    have o5 := HL5.out.own
    have b5 := HL5.out.bel
    have d0 := hl5.cells.1
    rw [hn1] at d0
    have H5a := Lib.hid hl5
    have H5b := Lib.hid o5
    have H5c := Lib.hid b5
    clear hl5 o5 b5 HL5 HKC
    go_upto_block 0 with (fail)
    go_wp2_with (fail)
    clear d0
    go_loopw [67] (fun u67 wx => ∃ i : Nat, i ≤ n + 1 ∧ u67 = .int .i64 i ∧ LdB wx b (.slice (some ⟨G, 0, none⟩) L.length lcap) sv fr tt bs wide ∧ OwnS pcE 75 wx (b + 1) (.slice (some ⟨G, 0, none⟩) L.length lcap) (lvP own L i) ∧ OutAt .u8 5 wx (b + 1) oa oc (ints own) ∧ Below b w wx) (fun u67 _ => n + 1 - (intOf u67).toNat)
    case atStart => exact ⟨0, by omega, rfl, H5a.out, by rw [lvP_zero]; exact H5b.out, HO5.out, H5c.out⟩
    case round =>
      obtain ⟨i, hi, rfl, hld, hrow, hout, hbel⟩ := hrel
      have HLD := Lib.hid hld
      have HROWi := Lib.hid hrow
      have HOUT := Lib.hid hout
      have HBEL := Lib.hid hbel
      clear hld hrow hout hbel H5a H5b H5c HO5
      by_cases hlt : i < n + 1
      · obtain ⟨p, hp⟩ : ∃ p, L[i]? = some p := ⟨_, List.getElem?_eq_getElem (by omega)⟩
        have hpl := lvP_get own L i p hp
        have hll := lvP_len own L i (by omega)
        have hnx := lvP_next own L i p hp
        obtain ⟨M, hM⟩ : ∃ M, lvP own L i = M := ⟨_, rfl⟩
        rw [hM] at hpl hll hnx
        have hrow2 : OwnS pcE 75 wr (b + 1) (.slice (some ⟨G, 0, none⟩) M.length lcap) M := by rw [hll, ← hM]; exact HROWi.out
        have hld2 : LdB wr b (.slice (some ⟨G, 0, none⟩) M.length lcap) sv fr tt bs wide := by rw [hll]; exact HLD.out
        obtain ⟨G', eG, hGb', hGl', hcell, hfz⟩ := hrow2.at i p hpl
        cases eG
        have hc0 := HCI.out i p hp
        obtain ⟨og, hog, hob, hol, hoc, hof, hocap, _⟩ := HOUT.out.at p.c0 (by rw [ints_len, hownl]; exact hc0)
        subst hog
        rw [ith_ints] at hoc
        obtain ⟨x, hx⟩ : ∃ x, own.getD p.c0 0 = x := ⟨_, rfl⟩
        rw [hx] at hoc
        have y0 : wr.cell? ⟨G, i * 10, none⟩ = some (.int .i64 p.a) := hcell 0 _ rfl
        have y1 : wr.cell? ⟨G, i * 10 + 1, none⟩ = some (.int .i64 p.size) := hcell 1 _ rfl
        have y2 : wr.cell? ⟨G, i * 10 + 2, none⟩ = some (.int .i64 p.c0) := hcell 2 _ rfl
        have y3 : wr.cell? ⟨G, i * 10 + 3, none⟩ = some (.int .i64 p.c1) := hcell 3 _ rfl
        have y4 : wr.cell? ⟨G, i * 10 + 4, none⟩ = some (.int .u8 p.level) := hcell 4 _ rfl
        have y5 : wr.cell? ⟨G, i * 10 + 5, none⟩ = some (.string p.became) := hcell 5 _ rfl
        have y6 : wr.cell? ⟨G, i * 10 + 6, none⟩ = some (.string p.shown) := hcell 6 _ rfl
        have y7 : wr.cell? ⟨G, i * 10 + 7, none⟩ = some (.int .i64 p.wide) := hcell 7 _ rfl
        have y8 : wr.cell? ⟨G, i * 10 + 8, none⟩ = some (.int .i64 p.e0) := hcell 8 _ rfl
        have y9 : wr.cell? ⟨G, i * 10 + 9, none⟩ = some (.int .i64 p.e1) := hcell 9 _ rfl
        have hsel : M.set i { p with level := p.level } = M := by
          apply List.ext_getElem?
          intro j
          rw [List.getElem?_set]
          split
          · rename_i e; subst e
            split
            · exact hpl.symm
            · rename_i h; exact absurd (List.getElem?_eq_some_iff.1 hpl).1 h
          · rfl
        have HNX := Lib.hid hnx
        have HLL := Lib.hid hll
        have HX := Lib.hid hx
        have HP := Lib.hid hp
        have HSEL := Lib.hid hsel
        have HLD2 := Lib.hid hld2
        have HROW2 := Lib.hid hrow2
        have hil : i < M.length := (List.getElem?_eq_some_iff.1 hpl).1
        have hc0i : (p.c0 : Int) < (own.length : Int) := by omega
        clear hpl hll hnx hM hrow2 hld2 hcell hfz hp hx hsel hoc hof
        go_upto_region 11 with (fail)
        have hb6 : Below wr.heap.size wr (wr.alloc (.cells #[.int .i64 p.a, .int .i64 p.size, .int .i64 p.c0, .int .i64 p.c1, .int .u8 p.level, .string p.became, .string p.shown, .int .i64 p.wide, .int .i64 p.e0, .int .i64 p.e1] 75)) := (Below.refl _ _).alloc (Nat.le_refl _) _
        have hx6 := World.alloc_heap_new wr (.cells #[.int .i64 p.a, .int .i64 p.size, .int .i64 p.c0, .int .i64 p.c1, .int .u8 p.level, .string p.became, .string p.shown, .int .i64 p.wide, .int .i64 p.e0, .int .i64 p.e1] 75)
        generalize wr.alloc (.cells #[.int .i64 p.a, .int .i64 p.size, .int .i64 p.c0, .int .i64 p.c1, .int .u8 p.level, .string p.became, .string p.shown, .int .i64 p.wide, .int .i64 p.e0, .int .i64 p.e1] 75) = W6 at hb6 hx6 ⊢
        obtain ⟨P, hP⟩ : ∃ P, wr.heap.size = P := ⟨_, rfl⟩
        have hGP : G ≠ P := by omega
        have hLW : LwS w b G lcap sv fr tt bs wide M i p P (some ⟨og, 0, none⟩) oc (ints own) W6 :=
          ⟨HLD2.out.below hb6 HLD2.out.lt, ⟨p.level, by rw [HSEL.out]; exact HROW2.out.keep hb6⟩, hP ▸ hx6, HOUT.out.keep hb6, HBEL.out.trans (hb6.mono (Nat.le_of_lt HLD2.out.lt))⟩
        obtain ⟨v4, hv4⟩ : ∃ v4 : World → Value, ∀ W, LwS w b G lcap sv fr tt bs wide M i p P (some ⟨og, 0, none⟩) oc (ints own) W → W.cell? ⟨G, i * 10 + 4, none⟩ = some (v4 W) ∧ W.frozen? ⟨G, i * 10 + 4, none⟩ = false := ⟨fun W => (W.cell? ⟨G, i * 10 + 4, none⟩).getD undef, fun W h => by
          obtain ⟨y, hr⟩ := h.row
          have hml : (M.set i { p with level := y }).length = M.length := List.length_set
          have hge : (M.set i { p with level := y })[i]? = some { p with level := y } := by rw [List.getElem?_set]; simp [hil]
          obtain ⟨g, e, _, _, hcc, hff⟩ := (show OwnS pcE 75 W (b + 1) (.slice (some ⟨G, 0, none⟩) (M.set i { p with level := y }).length lcap) _ by rw [hml]; exact hr).at i _ hge
          cases e
          have h4 := hcc 4 _ rfl
          refine ⟨?_, hff _⟩
          rw [show i * pcE.k + 4 = i * 10 + 4 from rfl] at h4
          simp [h4]⟩
        have HKW : Hid (∀ W, LwS w b G lcap sv fr tt bs wide M i p P (some ⟨og, 0, none⟩) oc (ints own) W → W.cell? ⟨b, 0, none⟩ = some (.slice (some ⟨G, 0, none⟩) (n + 1) lcap) ∧ W.cell? ⟨P, 2, none⟩ = some (.int .i64 p.c0) ∧ W.cell? ⟨og, p.c0, none⟩ = some (.int .u8 x) ∧ W.cell? ⟨G, i * 10 + 4, none⟩ = some (v4 W) ∧ W.frozen? ⟨G, i * 10 + 4, none⟩ = false ∧
            LwS w b G lcap sv fr tt bs wide M i p P (some ⟨og, 0, none⟩) oc (ints own) W) :=
          Lib.hid fun W h => ⟨by have := h.ld.cells.1; rw [HLL.out, hn1] at this; exact this, (by have := h.box; simp [World.cell?, this]), (by
            obtain ⟨og', e, _, _, hc', _⟩ := h.out.at p.c0 (by rw [ints_len, hownl]; exact hc0)
            cases e
            rw [ith_ints, HX.out] at hc'
            exact hc'), (hv4 W h).1, (hv4 W h).2, h⟩
        have HSW : Hid (∀ W, LwS w b G lcap sv fr tt bs wide M i p P (some ⟨og, 0, none⟩) oc (ints own) W → LwS w b G lcap sv fr tt bs wide M i p P (some ⟨og, 0, none⟩) oc (ints own) (W.setCell ⟨G, i * 10 + 4, none⟩ (.int .u8 x))) := Lib.hid fun W h => h.set hil hGP x
        obtain ⟨k0, k2, kx, k4, kf, hW6⟩ := HKW.out _ hLW
        have HLW := Lib.hid hLW
        rw [hP]
        have i3 : (i : Int) < (n : Int) + 1 := by omega
        have i4 : (0 : Int) ≤ (i : Int) := by omega
        have i5 : (0 : Int) ≤ (p.c0 : Int) := by omega
        clear y0 y1 y2 y3 y4 y5 y6 y7 y8 y9 hv4 hb6 hx6 hLW HLD2 HROW2 HSEL
        go_region_held3 (fun w' => w'.cell? ⟨b, 0, none⟩ = some (.slice (some ⟨G, 0, none⟩) (n + 1) lcap) ∧ w'.cell? ⟨P, 2, none⟩ = some (.int .i64 p.c0) ∧ w'.cell? ⟨og, p.c0, none⟩ = some (.int .u8 x) ∧ w'.cell? ⟨G, i * 10 + 4, none⟩ = some (v4 w') ∧ w'.frozen? ⟨G, i * 10 + 4, none⟩ = false ∧
            LwS w b G lcap sv fr tt bs wide M i p P (some ⟨og, 0, none⟩) oc (ints own) w')
          ((refine HKW.out _ ?_; repeat (first | assumption | refine LwS.drew ?_ | refine HSW.out _ ?_)))
          (fail)
        have hW7 := HSW.out _ HLW.out
        have hR7 := HLW.out.rowx hil x
        rw [show ({ p with level := x } : Pc) = levelP own p by unfold levelP; rw [HX.out], HNX.out, HLL.out] at hR7
        have hL7 := hW7.ld
        rw [HLL.out] at hL7
        have ZL := Lib.hid hL7
        have ZR := Lib.hid hR7
        have ZO := Lib.hid hW7.out
        have ZB := Lib.hid hW7.bel.drew
        clear hW7 hR7 hL7 k0 k2 kx k4 kf hW6 HLW HSW HKW
        go_wp2_with (fail)
        go_roundw
        case rel => exact ⟨i + 1, by omega, by go_num, ZL.out, ZR.out, ZO.out, ZB.out⟩
        case measure => simp [intOf]; omega
      · obtain rfl : i = n + 1 := by omega
        have e1 : lvP own L (n + 1) = L.map (levelP own) := by rw [← hn1]; exact lvP_all own L
        have hfin : OwnS pcE 75 wr (b + 1) (.slice (some ⟨G, 0, none⟩) L.length lcap) (L.map (levelP (ownLv s want fr (lastC L)))) := by rw [HOWN.out, ← e1]; exact HROWi.out
        have HFIN := Lib.hid hfin
        clear hfin e1 hlt
        go_wp2_with (fail)
        go_end0
        exact ⟨rfl, HLD.out, HFIN.out, HBEL.out⟩
end
section
set_option linter.unusedVariables false
set_option linter.unusedSimpArgs false
open Go.RowKit Go.Proofs Go.Shelf

theorem iter_own {k : IntKind} {e base cap : Nat} {w : World} {ao : Option Addr} {out : List Int} (h : OutAt k e w base ao cap out) {B : Nat} {s : ByteArray} {pos : Nat} (hB : B < base) (pos' : Nat) (hs : w.heap[B]? = some (.stringIter s pos)) : OutAt k e (w.iterAt B s pos') base ao cap out := by
  refine ⟨h.1, ?_⟩
  rcases h.2 with hn | ⟨g, c, cur, h1, h2, h3, h4⟩
  · exact .inl hn
  · exact .inr ⟨g, c, cur, h1, h2, (Lib.iterAt_other w B g s pos' (by omega)).trans h3, h4⟩
theorem bad_step (s : ByteArray) (pos : Nat) (h : pos < s.size) : badF s (s.size - pos) pos = ((decide (((Utf8.decode s pos).1 : Int) = 65533) && decide ((Utf8.decode s pos).2 = 1)) || badF s (s.size - (pos + (Utf8.decode s pos).2)) (pos + (Utf8.decode s pos).2)) := by
  obtain ⟨k, hk⟩ : ∃ k, s.size - pos = k + 1 := ⟨s.size - pos - 1, by omega⟩
  have hp := Lib.decode_width_pos s pos h
  rw [hk, badF, if_pos h]
  congr 1
  exact badF_fuel s _ _ _ (by omega) (by omega)
set_option maxRecDepth 100000 in
set_option maxHeartbeats 1000000 in
theorem Bad_any (s : ByteArray) (hs : s.size ≤ 2097152) (w : World) (hT : T8 w) :
    Calls Tryz.prog 80 #[.string s] w fun e w' => ∃ a n c, e = .returned (.slice a n c) ∧ (n = 0 ↔ badI s = false) ∧ Below w.heap.size w w' := by
  obtain ⟨i0, hi0, hz0, hz1, hz2⟩ := info_parts (Tryz.info_int)
  go_enter Tryz.func80, Tryz.ntmps80
  go_wp2_with (fail)
  refine wp_scope_straight ?_
  go_wp2_with (fail)
  refine wp_label ?_
  go_wp2_with (fail)
  obtain ⟨B0, hB0⟩ : ∃ B0, w.heap.size = B0 := ⟨_, rfl⟩
  have hx0 : (w.iter s 0).heap[B0]? = some (.stringIter s 0) := by rw [← hB0]; exact World.iter_heap w s 0
  have hb0 : Below B0 w (w.iter s 0) := by rw [← hB0]; exact (Below.refl _ _).alloc (Nat.le_refl _) _
  generalize w.iter s 0 = W0 at hx0 hb0 ⊢
  rw [hB0]
  go_loopw [3, 4, 5, 6, 7, 14] (fun u3 _ _ _ _ _ wx => ∃ (pos : Nat) (out : List Int) (a : Option Addr) (c : Nat), pos ≤ s.size ∧ out.length ≤ pos ∧ u3 = .slice a out.length c ∧ wx.heap[B0]? = some (.stringIter s pos) ∧ OutAt .i64 3 wx (B0 + 1) a c out ∧ Below B0 w wx ∧
      ((out = [] ∧ badF s (s.size - pos) pos = badI s) ∨ (out ≠ [] ∧ badI s = true))) (fun _ _ _ _ _ _ wx => s.size - wx.iterPos B0)
  case atStart => exact ⟨0, [], none, 0, by omega, by simp, rfl, hx0, World.ownsRow_nil _ _ _ _, hb0, .inl ⟨rfl, by rw [Nat.sub_zero]; rfl⟩⟩
  case round =>
    obtain ⟨pos, out, a, c, hp, hol, rfl, hit, hO, hbel, hbad⟩ := hrel
    have hip : wr.iterPos B0 = pos := by simp [World.iterPos, hit]
    clear hx0 hb0
    by_cases hlt : pos < s.size
    · have hnx := fun ty => Lib.run_next_any_at (P := Tryz.prog) wr B0 s pos ty hit hlt
      have hstep := bad_step s pos hlt
      have hdp := Lib.decode_width_pos s pos hlt
      have hdg : Lib.decodeGo (s.extract pos s.size) = Utf8.decode s pos := by
        rw [← dec_go _ (by rw [ext_size s pos hp]; omega), dec_ext s pos 0 hp, Nat.add_zero]
      have hdl : pos + (Utf8.decode s pos).2 ≤ s.size := by
        have h1 := decN_le (s.extract pos s.size)
        unfold decN at h1
        rw [hdg, ext_size s pos hp] at h1
        omega
      have hO1 := iter_own hO (by omega) (pos + (Utf8.decode s pos).2) hit
      have hx1 := Lib.iterAt_heap wr B0 s pos (pos + (Utf8.decode s pos).2) hit
      have hb1 := Lib.below_iterAt hbel (Nat.le_refl B0) s (pos + (Utf8.decode s pos).2)
      have hT1 := hT.below hB0.symm hb1
      have HDE : Hid (∀ W, T8 W → Calls Tryz.prog 61 #[.string (s.extract pos s.size)] W fun e w' => e = .returned (.tuple #[.int .i32 (Utf8.decode s pos).1, .int .i64 (Utf8.decode s pos).2]) ∧ Below W.heap.size W w') := Lib.hid fun W h => hdg ▸ Any.utf8_DecodeRuneInString Tryz.lays197 (s.extract pos s.size) W h
      generalize (Utf8.decode s pos).1 = r at hnx hstep HDE
      generalize (Utf8.decode s pos).2 = n at hnx hstep hdp hdl hO1 hx1 hb1 hT1 HDE
      generalize wr.iterAt B0 s (pos + n) = w1 at hnx hO1 hx1 hb1 hT1
      have HST := Lib.hid hstep
      have HO1 := Lib.hid hO1
      have HX1 := Lib.hid hx1
      have HB1 := Lib.hid hb1
      have HT1 := Lib.hid hT1
      have HBAD := Lib.hid hbad
      have HDL := Lib.hid hdl
      have HIP := Lib.hid hip
      have HOL := Lib.hid hol
      have gp : (pos : Int) ≤ (s.size : Int) := by omega
      clear hit hO hbel hbad hstep hO1 hx1 hb1 hT1 hdg hdl hip hol
      go_upto_region 6 with (go_at_call 61; refine (HDE.out _ HT1.out).mono ?_; rintro e w2 ⟨rfl, hb2⟩)
      have hlt1 : B0 < w1.heap.size := (Array.getElem?_eq_some_iff.1 HX1.out).1
      have hx2 : w2.heap[B0]? = some (.stringIter s (pos + n)) := (hb2.block B0 hlt1).trans HX1.out
      have HX2 := Lib.hid hx2
      have HO2 := Lib.hid (HO1.out.keep hb2)
      have HB2 := Lib.hid (HB1.out.trans (hb2.mono (Nat.le_of_lt hlt1)))
      have hsz2 : B0 < w2.heap.size := (Array.getElem?_eq_some_iff.1 hx2).1
      clear hx2 hb2 HO1 HB1 HX1 HDE hnx
      have hsame : ¬ (r = 65533 ∧ n = 1) → ((out = [] ∧ badF s (s.size - (pos + n)) (pos + n) = badI s) ∨ (out ≠ [] ∧ badI s = true)) := fun hno => by
        rcases HBAD.out with ⟨h1, h2⟩ | h
        · refine .inl ⟨h1, ?_⟩
          rw [HST.out] at h2
          rw [← h2]
          by_cases h3 : r = 65533
          · have h4 : ¬ n = 1 := fun h => hno ⟨h3, h⟩
            rw [decide_eq_false h4, Bool.and_false, Bool.false_or]
          · have h5 : ¬ ((r : Int) = 65533) := by omega
            rw [decide_eq_false h5, Bool.false_and, Bool.false_or]
        · exact .inr h
      have HSAME := Lib.hid hsame
      clear hsame
      by_cases hr : r = 65533
      · by_cases hn : n = 1
        · subst hr hn
          have HBI : Hid (badI s = true) := Lib.hid (by
            rcases HBAD.out with ⟨h1, h2⟩ | h
            · rw [← h2, HST.out]
              rfl
            · exact h.2)
          clear HSAME HST HBAD
          have hoc := own_slice HO2.out
          go_wp2_with (at_builtin; refine wpList_append_own _ rfl _ _ 56 rfl (B0 + 1) 3 i0 (.int .i64 0) 1 8 Tryz.underlying56 hi0 hz0 hz1 hz2 rfl (by decide) _ _ _ rfl (HO2.out.alloc _) ⟨w2.heap.size, 0, none⟩ 1 1 [.int .i64 pos] rfl rfl (cell_one_new _ _ _) (by simp [Value.oneCell']) (by unfold maxLen; have := HOL.out; omega) (by have := HOL.out; omega) (by simp; omega) ?_; intro v' w4 ho hg _)
          have hb4 := (HB2.out.alloc (Nat.le_of_lt hsz2) (.cells #[.int .i64 pos] 3)).grown hg (by simp; omega) (fun k hk => by have := (World.ownsRow.lt HO2.out k hk).1; omega)
          have hx4 : w4.heap[B0]? = some (.stringIter s (pos + 1)) := (hg.block B0 (by simp; omega) (fun e => by have := (World.ownsRow.lt HO2.out B0 e.symm).1; omega)).trans ((Below.heap_alloc w2 _ B0 hsz2).trans HX2.out)
          have hm : out.map (Value.int .i64) ++ [.int .i64 (pos : Int)] = (out ++ [(pos : Int)]).map (Value.int .i64) := by rw [List.map_append]; rfl
          rw [hm] at ho
          obtain ⟨va, vc, hva, _, _⟩ := own_slice ho
          subst hva
          have ho' : OutAt .i64 3 w4 (B0 + 1) va vc (out ++ [(pos : Int)]) := by
            unfold OutAt
            rw [List.length_append]
            exact ho
          have HO4 := Lib.hid ho'
          have HX4 := Lib.hid hx4
          have HB4 := Lib.hid hb4
          clear ho ho' hx4 hb4 hg hm hoc HO2 HX2 HB2
          go_wp2_with (fail)
          go_roundw
          case rel => exact ⟨pos + 1, out ++ [(pos : Int)], va, vc, HDL.out, by have := HOL.out; rw [List.length_append]; simp; omega, by rw [List.length_append]; rfl, HX4.out, HO4.out, HB4.out, .inr ⟨by simp, HBI.out⟩⟩
          case measure => rw [HIP.out]; simp [World.iterPos, HX4.out]; have := HDL.out; omega
        · have hne : ((n : Int) != 1) = true := by simp; omega
          have HN := Lib.hid (HSAME.out (fun h => hn h.2))
          subst hr
          clear hn HSAME HST HBAD
          go_wp2_with (fail)
          go_roundw
          case rel => exact ⟨pos + n, out, a, c, HDL.out, by have := HOL.out; omega, rfl, HX2.out, HO2.out, HB2.out, HN.out⟩
          case measure => rw [HIP.out]; simp [World.iterPos, HX2.out]; have := HDL.out; omega
      · have hne : ((r : Int) != 65533) = true := by simp; omega
        have HN := Lib.hid (HSAME.out (fun h => hr h.1))
        clear hr HSAME HST HBAD
        go_wp2_with (fail)
        go_roundw
        case rel => exact ⟨pos + n, out, a, c, HDL.out, by have := HOL.out; omega, rfl, HX2.out, HO2.out, HB2.out, HN.out⟩
        case measure => rw [HIP.out]; simp [World.iterPos, HX2.out]; have := HDL.out; omega
    · obtain rfl : pos = s.size := by omega
      have hnx := fun ty => Lib.run_next_end_at (P := Tryz.prog) wr B0 s s.size ty hit (Nat.lt_irrefl _)
      have hE : out.length = 0 ↔ badI s = false := by
        rcases hbad with ⟨h1, h2⟩ | ⟨h1, h2⟩
        · rw [h1, ← h2, Nat.sub_self, badF]
          simp
        · rw [h2]
          simp [h1]
      have HE := Lib.hid hE
      have HBE := Lib.hid hbel
      clear hE hbel hbad hO hit hip hol
      go_wp2_with (fail)
      unfold Exit.noGoto
      go_ret
      exact ⟨_, _, _, rfl, HE.out, by first | exact HBE.out | exact hB0 ▸ HBE.out⟩
end
section
set_option linter.unusedVariables false
set_option linter.unusedSimpArgs false
open Go.RowKit Go.Great

def joinsT : List (Int × Int) := [(0, 0), (768, 4), (880, 0), (1155, 4), (1162, 0), (1425, 4), (1470, 0), (1471, 4), (1472, 0), (1473, 4), (1475, 0), (1476, 4), (1478, 0), (1479, 4), (1480, 0), (1552, 4), (1563, 0), (1570, 1), (1574, 2), (1575, 1), (1576, 2), (1577, 1), (1578, 2), (1583, 1), (1587, 2), (1595, 0), (1600, 3), (1601, 2), (1608, 1), (1610, 2), (1611, 4), (1632, 0), (1648, 4), (1649, 0), (1750, 4), (1757, 0), (1759, 4), (1765, 0), (1767, 4), (1769, 0), (1770, 4), (1774, 0), (3633, 4), (3634, 0), (3636, 4), (3643, 0), (3655, 4), (3663, 0), (6832, 4), (6912, 0), (7616, 4), (7680, 0), (8205, 3), (8206, 0), (8400, 4), (8448, 0), (12330, 4), (12334, 0), (12441, 4), (12443, 0), (65024, 4), (65040, 0), (65056, 4), (65072, 0)]
theorem joinsT_len : joinsT.length = 64 := by as_aux_lemma => kernel_rfl
set_option maxRecDepth 1000000 in
set_option maxHeartbeats 1000000 in
theorem joins_any (r : Int) (w : World) :
    Calls Tryz.prog 162 #[.int .i32 r] w (TabPost joinsT (known r) w) := by
  refine calls_of_wp Tryz.func162 rfl ?_
  refine wp_frame0 75 (.int .i32 r) (by as_aux_lemma => kernel_rfl) rfl (by as_aux_lemma => kernel_rfl) fun a0 hs0 hd0 h0 => ?_
  apply wp_seq_k; intro K0 hK0
  apply wp_region_lit
  refine wpList_mv rfl (some 2) rfl _ (.inr rfl) ?_
  refine wpList_mv rfl (some 3) rfl _ (.inr rfl) ?_
  apply wpList_nil
  refine hK0 _ _ ?_
  refine wp_frame0 75 (.int .i32 r) (by simp only [Act.size_put, hs0]) (by simp only [Act.defers_put', hd0]) (by rw [Act.eval_put_ne _ _ _ _ (by decide), Act.eval_put_ne _ _ _ _ (by decide), h0]) fun a1 hs1 hd1 h1 => ?_
  clear hK0 K0 h0 hd0 hs0 a0
  apply wp_seq_k; intro K1 hK1
  apply wp_region_lit
  refine wpList_splitAt 64 (stOps 161 (posOf Tryz.f162) 5 joinsT) (by as_aux_lemma => kernel_rfl) ?_
  refine wpList_sts 161 (posOf Tryz.f162) (fun _ _ => by as_aux_lemma => kernel_rfl) joinsT 5 _ (by rw [joinsT_len, hs1]; decide) fun a2 hs2 hd2 hev hlow => ?_
  refine wpList_buildArr2 rfl 248 161 64 _ joinsT rfl 5 (some 69) rfl (by as_aux_lemma => kernel_rfl) (by as_aux_lemma => kernel_rfl) (by as_aux_lemma => kernel_rfl) (by as_aux_lemma => kernel_rfl) hev ?_
  refine wpList_allocZ rfl (some 4) rfl 248 rfl w.heap.size rfl (((Tryz.prog.info? 248).bind (·.zero)).getD undef) (by as_aux_lemma => kernel_rfl) ?_
  have hc2 : (tcells joinsT).toArray.size = 128 := by rw [List.size_toArray, tcells_length, joinsT_len]
  have hb : w.heap.size < (w.alloc (.cells (((Tryz.prog.info? 248).bind (·.zero)).getD undef).cells 248)).heap.size := by simp
  refine wpList_store_row rfl 248 (.tmp 4) (.tmp 69) rfl w.heap.size (tcells joinsT).toArray
    (Act.eval_put_same _ _ _ (by simp only [Act.size_put, hs2, hs1]; decide)) (by rw [Act.eval_put_ne _ _ _ _ (by decide), Act.eval_put_same _ _ _ (by simp only [hs2, hs1]; decide)])
    248 _ (heap_alloc_new w _) (by rw [hc2]; as_aux_lemma => kernel_rfl) (by rw [hc2]; as_aux_lemma => kernel_rfl) (tcells_one _) ?_
  apply wpList_nil
  refine hK1 _ _ ?_
  clear hK1 K1
  have hp : ((((a2.put (some 69) (.agg (tcells joinsT).toArray)).put (some 4) (.pointer (some ⟨w.heap.size, 0, none⟩)))).put none undef).eval (.tmp 4) = .pointer (some ⟨w.heap.size, 0, none⟩) :=
    Act.eval_put_same _ _ _ (by simp only [Act.size_put, hs2, hs1]; decide)
  have hr : ((((a2.put (some 69) (.agg (tcells joinsT).toArray)).put (some 4) (.pointer (some ⟨w.heap.size, 0, none⟩)))).put none undef).eval (.tmp 0) = .int .i32 r := by
    show ((a2.put (some 69) (.agg (tcells joinsT).toArray)).put (some 4) (.pointer (some ⟨w.heap.size, 0, none⟩))).eval (.tmp 0) = _
    rw [Act.eval_put_ne _ _ _ _ (by decide), Act.eval_put_ne _ _ _ _ (by decide), hlow 0 (by decide), h1]
  exact tab_tail joinsT 64 75 70 4 248 161 r w _ _ _ _ _ _ _ _ _ _ joinsT_len (by decide) (by decide) (by simp only [Act.size_put, hs2, hs1]) (by simp only [Act.defers_put', hd2, hd1]) hp hr (by decide) (by decide)
    (by as_aux_lemma => kernel_rfl) (by as_aux_lemma => kernel_rfl) (setRow_heap _ _ _ _ _ _ (heap_alloc_new w _)) (tab_below w _ _) rfl
    rfl rfl rfl rfl rfl rfl rfl rfl (fun x => by rw [execOp_call_go]; simp) rfl rfl rfl rfl rfl rfl rfl rfl rfl rfl rfl rfl


theorem joins_val (r : Int) (w : World) : Calls Tryz.prog 162 #[.int .i32 r] w fun e w' => ∃ x y : Int, x = tabLook joinsT (known r) ∧ 0 ≤ x ∧ x ≤ 127 ∧ e = .returned (.tuple #[.int .u8 x, .int .i32 y]) ∧ Below w.heap.size w w' := by
  refine (joins_any r w).mono fun e w1 h => ?_
  obtain ⟨low, h1, h2, h3, he, hb⟩ := h
  have hs : tabSmall joinsT = true := by as_aux_lemma => kernel_rfl
  have hr : risesB joinsT = true := by as_aux_lemma => kernel_rfl
  have hbd := tabSmall_bd hs low
  exact ⟨_, _, (tabLook_of joinsT low (known r) hr h1 h2 h3).symm, hbd.1, hbd.2, he, hb⟩
def joinI (r : Int) : Int := tabLook joinsT (known r)
set_option maxHeartbeats 400000 in
theorem Join_any (r : Int) (w : World) :
    Calls Tryz.prog 133 #[.int .i32 r] w fun e w' => e = .returned (.int .i8 (joinI r)) ∧ Below w.heap.size w w' := by
  go_enter Tryz.func133, Tryz.ntmps133
  go_wp2_with (go_at_call 162; refine (joins_val r w).mono ?_; rintro e w1 ⟨x, y, rfl, h0, h1, rfl, hb⟩)
  go_ret
  exact ⟨ret_i rfl, hb⟩
end
section
set_option linter.unusedVariables false
set_option linter.unusedSimpArgs false
open Go.RowKit Go.Great

/-- the first shapes of the letters from 0x621 to 0x64a; 0: none -/
def firstsT : List Int := [0xfe80, 0xfe81, 0xfe83, 0xfe85, 0xfe87, 0xfe89, 0xfe8d, 0xfe8f, 0xfe93, 0xfe95, 0xfe99, 0xfe9d, 0xfea1, 0xfea5, 0xfea9, 0xfeab, 0xfead, 0xfeaf, 0xfeb1, 0xfeb5, 0xfeb9, 0xfebd, 0xfec1, 0xfec5, 0xfec9, 0xfecd, 0, 0, 0, 0, 0, 0, 0xfed1, 0xfed5, 0xfed9, 0xfedd, 0xfee1, 0xfee5, 0xfee9, 0xfeed, 0xfeef, 0xfef1]
def fstI (r : Int) : Int := if r < 1569 ∨ 1610 < r then 0 else firstsT.getD (r - 1569).toNat 0
def shapeI (r form : Int) : Int :=
  if fstI r = 0 then r
  else if joinI r = 2 then (if form = 3 then fstI r + 1 else if form = 1 then fstI r + 2 else if form = 2 then fstI r + 3 else fstI r)
  else if joinI r = 1 then (if form = 3 ∨ form = 2 then fstI r + 1 else fstI r)
  else fstI r
def fstC : Array Value := (firstsT.map (Value.int .u16)).toArray
theorem fsts_bd (k : Nat) : 0 ≤ firstsT.getD k 0 ∧ firstsT.getD k 0 ≤ 65265 := by
  by_cases h : k < 42
  · have : ∀ j : Fin 42, 0 ≤ firstsT.getD j.1 0 ∧ firstsT.getD j.1 0 ≤ 65265 := by decide
    exact this ⟨k, h⟩
  · rw [List.getD_eq_getElem?_getD, List.getElem?_eq_none (by show 42 ≤ k; omega)]
    decide
theorem fst_bd (r : Int) : 0 ≤ fstI r ∧ fstI r ≤ 65265 := by
  unfold fstI
  split
  · decide
  · exact fsts_bd _
set_option maxRecDepth 100000 in
set_option maxHeartbeats 1000000 in
theorem jFirst_any (r : Int) (w : World) :
    Calls Tryz.prog 134 #[.int .i32 r] w fun e w' => e = .returned (.int .i32 (fstI r)) ∧ Below w.heap.size w w' := by
  go_enter Tryz.func134, Tryz.ntmps134
  go_upto_region 1 with (fail)
  apply wp_region_lit
  refine wpList_buildTo rfl 235 _ rfl (some 4) rfl fstC (by as_aux_lemma => kernel_rfl) ?_
  refine wpList_allocZ rfl (some 3) rfl 235 rfl w.heap.size rfl (((Tryz.prog.info? 235).bind (·.zero)).getD undef) (by as_aux_lemma => kernel_rfl) ?_
  refine wpList_store_rowTo rfl 235 (.tmp 3) (.tmp 4) rfl rfl w.heap.size fstC rfl rfl 235 _ (heap_alloc_new w _) (by as_aux_lemma => kernel_rfl) (by as_aux_lemma => kernel_rfl) (by as_aux_lemma => kernel_rfl) ?_
  apply wpList_nil
  rename_i hK
  have hx := setRow_heap _ _ _ fstC _ _ (heap_alloc_new w (.cells (((Tryz.prog.info? 235).bind (·.zero)).getD undef).cells 235))
  have hb := tab_below w (.cells (((Tryz.prog.info? 235).bind (·.zero)).getD undef).cells 235) fstC
  simp only [Act.put]
  generalize World.setRow _ _ _ = w1 at hx hb ⊢
  refine hK _ _ ?_
  clear hK
  simp only [List.setIfInBounds_toArray, List.set_cons_zero, List.set_cons_succ]
  have hs1 : w.heap.size < w1.heap.size := (Array.getElem?_eq_some_iff.1 hx).1
  obtain ⟨B, hB⟩ : ∃ B, w.heap.size = B := ⟨_, rfl⟩
  rw [hB] at hx hs1
  have hb' : Below w.heap.size w w1 := hb
  rw [hB] at hb'
  have HB := Lib.hid hb
  have HB2 := Lib.hid hb'
  have HX := Lib.hid hx
  rw [hB]
  clear hb hb' hx
  generalize Value.agg fstC = v4
  by_cases h1 : r < 1569
  · go_wp2_with (fail)
    go_ret
    exact ⟨ret_i (by unfold fstI; rw [if_pos (.inl h1)]), by first | exact HB.out | exact HB2.out⟩
  by_cases h2 : 1610 < r
  · go_wp2_with (fail)
    go_ret
    exact ⟨ret_i (by unfold fstI; rw [if_pos (.inr h2)]), by first | exact HB.out | exact HB2.out⟩
  obtain ⟨k, hk⟩ : ∃ k : Nat, r = 1569 + k := ⟨(r - 1569).toNat, by omega⟩
  subst hk
  have hk : k < 42 := by omega
  have hc : w1.cell? ⟨B, k, none⟩ = some (.int .u16 (fstI (1569 + k))) := by
    have e : fstC[k]? = some (.int .u16 (firstsT.getD k 0)) := by
      unfold fstC
      rw [List.getElem?_toArray, List.getElem?_map, List.getD_eq_getElem?_getD, List.getElem?_eq_getElem (show k < firstsT.length from hk)]
      rfl
    unfold fstI
    rw [if_neg (by omega), show ((1569 : Int) + k - 1569).toNat = k by omega]
    simp [World.cell?, HX.out, e]
  have hfb := fst_bd (1569 + k)
  obtain ⟨f, hf⟩ : ∃ f, fstI (1569 + k) = f := ⟨_, rfl⟩
  rw [hf] at hc hfb
  have HFE := Lib.hid hf
  clear hf
  have i1 : IntKind.i32.wrap ((1569 : Int) + k - 1569) = k := by rw [IntKind.wrap_i32]; omega
  have i2 : (k : Int) < 42 := by omega
  go_wp2_with (fail)
  go_ret
  exact ⟨ret_i (by rw [HFE.out]), by first | exact HB.out | exact HB2.out⟩
set_option maxHeartbeats 1000000 in
theorem Shape_any (r form : Int) (w : World) :
    Calls Tryz.prog 107 #[.int .i32 r, .int .i8 form] w fun e w' => e = .returned (.int .i32 (shapeI r form)) ∧ Below w.heap.size w w' := by
  obtain ⟨V, hV⟩ : ∃ V, shapeI r form = V := ⟨_, rfl⟩
  rw [hV]
  unfold shapeI at hV
  have hfb := fst_bd r
  have HF : Hid (∀ W : World, Calls Tryz.prog 134 #[.int .i32 r] W fun e w' => e = .returned (.int .i32 (fstI r)) ∧ Below W.heap.size W w') := Lib.hid fun W => jFirst_any r W
  have HJ : Hid (∀ W : World, Calls Tryz.prog 133 #[.int .i32 r] W fun e w' => e = .returned (.int .i8 (joinI r)) ∧ Below W.heap.size W w') := Lib.hid fun W => Join_any r W
  generalize fstI r = f at hV hfb HF
  generalize joinI r = j at hV HJ
  have HV := Lib.hid hV
  clear hV
  go_enter Tryz.func107, Tryz.ntmps107
  go_upto_region 2 with (go_at_call 134; refine (HF.out _).mono ?_; rintro e w1 ⟨rfl, hb1⟩)
  by_cases hf0 : f = 0
  · subst hf0
    go_wp2_with (fail)
    go_ret
    exact ⟨ret_i (by rw [← HV.out]; simp), hb1⟩
  · have hf1 : (f == 0) = false := by rw [beq_eq_false_iff_ne]; exact hf0
    go_upto_region 5 with (go_at_call 133; refine (HJ.out _).mono ?_; rintro e w2 ⟨rfl, hb2⟩)
    have hb3 := hb1.trans (hb2.mono hb1.size)
    have HB := Lib.hid hb3
    have HF0 := Lib.hid hf0
    clear hb1 hb2 hb3 hf0
    have HD : V = V := rfl
    by_cases hj2 : j = 2
    · subst hj2
      by_cases h3 : form = 3
      · subst h3
        go_wp2_with (fail)
        go_ret
        exact ⟨ret_i (by rw [← HV.out]; simp [HF0.out]), HB.out⟩
      by_cases h1 : form = 1
      · subst h1
        go_wp2_with (fail)
        go_ret
        exact ⟨ret_i (by rw [← HV.out]; simp [HF0.out]), HB.out⟩
      by_cases h2 : form = 2
      · subst h2
        go_wp2_with (fail)
        go_ret
        exact ⟨ret_i (by rw [← HV.out]; simp [HF0.out]), HB.out⟩
      · have e3 : (form == 3) = false := by rw [beq_eq_false_iff_ne]; exact h3
        have e1 : (form == 1) = false := by rw [beq_eq_false_iff_ne]; exact h1
        have e2 : (form == 2) = false := by rw [beq_eq_false_iff_ne]; exact h2
        have hE : V = f := by rw [← HV.out]; simp [HF0.out, h1, h2, h3]
        have HE := Lib.hid hE
        clear h1 h2 h3 hE
        go_wp2_with (fail)
        go_ret
        exact ⟨ret_i HE.out.symm, HB.out⟩
    · have ej2 : (j == 2) = false := by rw [beq_eq_false_iff_ne]; exact hj2
      by_cases hj1 : j = 1
      · subst hj1
        by_cases h3 : form = 3
        · subst h3
          go_wp2_with (fail)
          go_ret
          exact ⟨ret_i (by rw [← HV.out]; simp [HF0.out]), HB.out⟩
        by_cases h2 : form = 2
        · subst h2
          go_wp2_with (fail)
          go_ret
          exact ⟨ret_i (by rw [← HV.out]; simp [HF0.out]), HB.out⟩
        · have e3 : (form == 3) = false := by rw [beq_eq_false_iff_ne]; exact h3
          have e2 : (form == 2) = false := by rw [beq_eq_false_iff_ne]; exact h2
          have hE : V = f := by rw [← HV.out]; simp [HF0.out, h2, h3]
          have HE := Lib.hid hE
          clear h2 h3 hE
          go_wp2_with (fail)
          go_ret
          exact ⟨ret_i HE.out.symm, HB.out⟩
      · have ej1 : (j == 1) = false := by rw [beq_eq_false_iff_ne]; exact hj1
        have hE : V = f := by rw [← HV.out]; simp [HF0.out, hj1, hj2]
        have HE := Lib.hid hE
        clear hj1 hj2 hE
        go_wp2_with (fail)
        go_ret
        exact ⟨ret_i HE.out.symm, HB.out⟩
end
section
set_option linter.unusedVariables false
set_option linter.unusedSimpArgs false
open Go.RowKit

/-- one letter's turn: the forms, the nearest ahead that joins or may -/
def formStep (cs fs : List Int) (last : Int) (i : Nat) : List Int × Int :=
  if joinI (ith cs i) = 4 then (fs, last)
  else if joinI (ith cs i) = 1 ∨ joinI (ith cs i) = 2 ∨ joinI (ith cs i) = 3 then
    if last < 0 then (fs, i)
    else if joinI (ith cs last.toNat) ≠ 2 ∧ joinI (ith cs last.toNat) ≠ 3 then (fs, i)
    else if joinI (ith cs last.toNat) = 2 then
      ((if joinI (ith cs i) ≠ 3 then fs.set i 3 else fs).set last.toNat (if ith (if joinI (ith cs i) ≠ 3 then fs.set i 3 else fs) last.toNat = 3 then 2 else 1), i)
    else (if joinI (ith cs i) ≠ 3 then fs.set i 3 else fs, i)
  else (fs, i)
def formsF (cs : List Int) : Nat → List Int × Int
  | 0 => (List.replicate cs.length 0, -1)
  | n + 1 => formStep cs (formsF cs n).1 (formsF cs n).2 n
def formsI (cs : List Int) : List Int := (formsF cs cs.length).1
theorem formStep_len (cs fs : List Int) (last : Int) (i : Nat) : (formStep cs fs last i).1.length = fs.length := by
  unfold formStep
  repeat' split
  all_goals simp
theorem formStep_last (cs fs : List Int) (last : Int) (i : Nat) : (formStep cs fs last i).2 = last ∨ (formStep cs fs last i).2 = i := by
  unfold formStep
  repeat' split
  all_goals simp
theorem formsF_len (cs : List Int) : ∀ n, (formsF cs n).1.length = cs.length
  | 0 => by simp [formsF]
  | n + 1 => by rw [formsF, formStep_len, formsF_len cs n]
theorem formsF_last (cs : List Int) : ∀ n : Nat, -1 ≤ (formsF cs n).2 ∧ (formsF cs n).2 < (n : Int)
  | 0 => by simp [formsF]
  | n + 1 => by
    have h := formsF_last cs n
    rw [formsF]
    rcases formStep_last cs (formsF cs n).1 (formsF cs n).2 n with e | e <;> (rw [e]; omega)
theorem formsI_len (cs : List Int) : (formsI cs).length = cs.length := formsF_len cs _
def FormsPost (cs : List Int) (n : Nat) (w : World) (e : Ending) (w' : World) : Prop :=
  e = .returned (.slice (some ⟨w.heap.size, 0, none⟩) n n) ∧ OutAt .i8 22 w' w.heap.size (some ⟨w.heap.size, 0, none⟩) n (formsI cs) ∧ Below w.heap.size w w'
set_option maxRecDepth 100000 in
set_option maxHeartbeats 2000000 in
theorem Forms_any (a : Option Addr) (cs : List Int) (n c : Nat) (w : World) (hl : cs.length = n) (hd : Rd .i32 w a cs) (hn : n ≤ 2097152) :
    Calls Tryz.prog 106 #[.slice a n c] w (FormsPost cs n w) := by
  obtain ⟨i3, hi3, hz3, ha3, hb3⟩ := info_parts (Tryz.info_i8)
  have HL := Lib.hid hl
  have hOI : formsI cs = (formsF cs n).1 := by unfold formsI; rw [hl]
  have HOI := Lib.hid hOI
  have hmk := run_make_row (P := Tryz.prog) 142 22 i3 (.int .i8 0) Tryz.underlying142 hi3 hz3 ha3 rfl .i64 .i64 n (by rw [hb3]; omega) (by omega)
  clear hl hOI
  go_enter Tryz.func106, Tryz.ntmps106
  go_wp2_with (fail)
  refine wp_scope_straight ?_
  go_wp2_with (fail)
  clear hmk
  refine wp_label ?_
  go_wp2_with (fail)
  have hO0 : OutAt .i8 22 (w.alloc (.cells (madeCells #[.int .i8 0] n) 22)) w.heap.size (some ⟨w.heap.size, 0, none⟩) n (formsF cs 0).1 :=
    out_of_row ((World.rowIs_made w (.int .i8 0) n 22).congr fun i hi => by
      rw [formsF]
      unfold ith
      simp [HL.out, hi]) ((formsF_len cs 0).trans HL.out) (Nat.le_refl _) (by unfold maxLen; omega)
  have hb0 := (Below.refl w.heap.size w).alloc (Nat.le_refl _) (.cells (madeCells #[.int .i8 0] n) 22)
  go_loopw [4, 5, 6, 7, 8, 14] (fun u4 _ _ _ _ u wx => ∃ i : Nat, i ≤ n ∧ u = .int .i64 i ∧ u4 = .int .i64 (formsF cs i).2 ∧ OutAt .i8 22 wx w.heap.size (some ⟨w.heap.size, 0, none⟩) n (formsF cs i).1 ∧ Below w.heap.size w wx) (fun _ _ _ _ _ u _ => n - (intOf u).toNat)
  case atStart => exact ⟨0, by omega, rfl, rfl, hO0, hb0⟩
  case round =>
    obtain ⟨i, hi, rfl, rfl, hO, hbel⟩ := hrel
    clear hO0 hb0
    by_cases hlt : i < n
    · obtain ⟨G, o, rfl, hG, hcl⟩ := hd.at hbel i (by rw [HL.out]; exact hlt)
      obtain ⟨fs, hfs⟩ : ∃ fs, (formsF cs i).1 = fs := ⟨_, rfl⟩
      obtain ⟨L, hL⟩ : ∃ L, (formsF cs i).2 = L := ⟨_, rfl⟩
      have hnx : formsF cs (i + 1) = formStep cs fs L i := by rw [formsF, hfs, hL]
      have hfl : fs.length = n := by rw [← hfs, formsF_len, HL.out]
      have hlb := formsF_last cs i
      rw [hL] at hlb ⊢
      rw [hfs] at hO
      obtain ⟨y, hy⟩ : ∃ y, ith cs i = y := ⟨_, rfl⟩
      rw [hy] at hcl
      obtain ⟨k, hk⟩ : ∃ k, joinI y = k := ⟨_, rfl⟩
      unfold formStep at hnx
      rw [hy, hk] at hnx
      have HJ : Hid (∀ W, Calls Tryz.prog 133 #[.int .i32 y] W fun e w' => e = .returned (.int .i8 k) ∧ Below W.heap.size W w') := Lib.hid fun W => hk ▸ Join_any y W
      have HNX := Lib.hid hnx
      have HO := Lib.hid hO
      have HBE := Lib.hid hbel
      have HFL := Lib.hid hfl
      have gi0 : (0 : Int) ≤ (i : Int) := by omega
      have gi1 : (i : Int) < (n : Int) := by omega
      clear hfs hL hnx hO hbel hfl hy hk
      go_upto_region 7 with (go_at_call 133; refine (HJ.out _).mono ?_; rintro e w1 ⟨rfl, hb1⟩)
      have hO1 := HO.out.keep hb1
      have hB1 := HBE.out.trans (hb1.mono HBE.out.size)
      have HO1 := Lib.hid hO1
      have HB1 := Lib.hid hB1
      clear hcl hb1 hO1 hB1 HO HBE HJ
      by_cases hk4 : k = 4
      · subst hk4
        have hN : formsF cs (i + 1) = (fs, L) := by rw [HNX.out, if_pos rfl]
        have HN := Lib.hid hN
        clear hN
        go_wp2_with (fail)
        go_roundw
        case rel => exact ⟨i + 1, by omega, by go_num, by rw [HN.out], by rw [HN.out]; exact HO1.out, HB1.out⟩
        case measure => simp [intOf]; omega
      by_cases hk1 : k = 1
      · subst hk1
        clear hk4
        by_cases hL0 : L < 0
        · have HL0 := Lib.hid hL0
          have hN : formsF cs (i + 1) = (fs, (i : Int)) := by rw [HNX.out]; simp [HL0.out]
          have HN := Lib.hid hN
          clear hN
          go_wp2_with (fail)
          go_roundw
          case rel => exact ⟨i + 1, by omega, by go_num, by rw [HN.out], by rw [HN.out]; exact HO1.out, HB1.out⟩
          case measure => simp [intOf]; omega
        obtain ⟨l, rfl⟩ : ∃ l : Nat, L = l := ⟨L.toNat, by omega⟩
        have hli : l < i := by omega
        have gl0 : (0 : Int) ≤ (l : Int) := by omega
        have gl1 : (l : Int) < (n : Int) := by omega
        obtain ⟨G2, o2, e2, hG2, hcl2⟩ := hd.at HB1.out l (by rw [HL.out]; omega)
        cases e2
        obtain ⟨z, hz⟩ : ∃ z, ith cs l = z := ⟨_, rfl⟩
        rw [hz] at hcl2
        obtain ⟨b, hb⟩ : ∃ b, joinI z = b := ⟨_, rfl⟩
        have hnx := HNX.out
        rw [Int.toNat_natCast, hz, hb] at hnx
        have HJ2 : Hid (∀ W, Calls Tryz.prog 133 #[.int .i32 z] W fun e w' => e = .returned (.int .i8 b) ∧ Below W.heap.size W w') := Lib.hid fun W => hb ▸ Join_any z W
        clear HNX hz hb
        have HNX := Lib.hid hnx
        clear hnx
        go_upto_region 14 with (go_at_call 133; refine (HJ2.out _).mono ?_; rintro e w2 ⟨rfl, hb2⟩)
        have hO2 := HO1.out.keep hb2
        have hB2 := HB1.out.trans (hb2.mono HB1.out.size)
        have HO2 := Lib.hid hO2
        have HB2 := Lib.hid hB2
        clear hcl2 hb2 hO2 hB2 HO1 HB1 HJ2
        by_cases hb2 : b = 2
        · subst hb2
          obtain ⟨_, hGe, _, _, hXo, hFo, _, _⟩ := HO2.out.at i (by rw [HFL.out]; omega)
          cases hGe
          generalize ith fs i = vi at hXo
          have hS := HO2.out.set i 3
          have hSB := HB2.out.setCell (p := ⟨w.heap.size, i, none⟩) (Nat.le_refl _) (.int .i8 3)
          go_upto_region 17 with (fail)
          clear hXo hFo
          generalize w2.setCell ⟨w.heap.size, i, none⟩ (.int .i8 3) = w3 at hS hSB ⊢
          have HO3 := Lib.hid hS
          have HB3 := Lib.hid hSB
          clear hS hSB
          obtain ⟨_, hGe, _, _, hXo, hFo, _, _⟩ := HO3.out.at l (by first | (rw [HFL.out]; omega) | (rw [List.length_set, HFL.out]; omega))
          cases hGe
          obtain ⟨vo, hvo⟩ : ∃ vo, ith (fs.set i 3) l = vo := ⟨_, rfl⟩
          rw [hvo] at hXo
          have HVO := Lib.hid hvo
          clear hvo
          by_cases hv3 : vo = 3
          · subst hv3
            have hS := OutAt.set HO3.out l 2
            have HS := Lib.hid hS
            have HSB := Lib.hid (HB3.out.setCell (p := ⟨w.heap.size, l, none⟩) (Nat.le_refl _) (.int .i8 2))
            clear hS
            have hN : formsF cs (i + 1) = ((fs.set i 3).set l 2, (i : Int)) := by rw [HNX.out]; simp [show ¬ ((l : Int) < 0) from by omega, HVO.out]
            have HN := Lib.hid hN
            clear hN
            go_wp2_with (fail)
            go_roundw
            case rel => exact ⟨i + 1, by omega, by go_num, by rw [HN.out], by rw [HN.out]; exact HS.out, HSB.out⟩
            case measure => simp [intOf]; omega
          · have ev3 : (vo == 3) = false := by rw [beq_eq_false_iff_ne]; exact hv3
            have hS := OutAt.set HO3.out l 1
            have HS := Lib.hid hS
            have HSB := Lib.hid (HB3.out.setCell (p := ⟨w.heap.size, l, none⟩) (Nat.le_refl _) (.int .i8 1))
            clear hS
            have HV3 := Lib.hid hv3
            clear hv3
            have hN : formsF cs (i + 1) = ((fs.set i 3).set l 1, (i : Int)) := by rw [HNX.out]; simp [show ¬ ((l : Int) < 0) from by omega, HVO.out, HV3.out]
            have HN := Lib.hid hN
            clear hN
            go_wp2_with (fail)
            go_roundw
            case rel => exact ⟨i + 1, by omega, by go_num, by rw [HN.out], by rw [HN.out]; exact HS.out, HSB.out⟩
            case measure => simp [intOf]; omega
        by_cases hb3 : b = 3
        · subst hb3
          clear hb2
          obtain ⟨_, hGe, _, _, hXo, hFo, _, _⟩ := HO2.out.at i (by rw [HFL.out]; omega)
          cases hGe
          generalize ith fs i = vi at hXo
          have hS := HO2.out.set i 3
          have hSB := HB2.out.setCell (p := ⟨w.heap.size, i, none⟩) (Nat.le_refl _) (.int .i8 3)
          go_upto_region 17 with (fail)
          clear hXo hFo
          generalize w2.setCell ⟨w.heap.size, i, none⟩ (.int .i8 3) = w3 at hS hSB ⊢
          have HO3 := Lib.hid hS
          have HB3 := Lib.hid hSB
          clear hS hSB
          have hN : formsF cs (i + 1) = (fs.set i 3, (i : Int)) := by rw [HNX.out]; simp [show ¬ ((l : Int) < 0) from by omega]
          have HN := Lib.hid hN
          clear hN
          go_wp2_with (fail)
          go_roundw
          case rel => exact ⟨i + 1, by omega, by go_num, by rw [HN.out], by rw [HN.out]; exact HO3.out, HB3.out⟩
          case measure => simp [intOf]; omega
        have eb2 : (b == 2) = false := by rw [beq_eq_false_iff_ne]; exact hb2
        have eb3 : (b == 3) = false := by rw [beq_eq_false_iff_ne]; exact hb3
        have nb2 : (b != 2) = true := by simp [hb2]
        have nb3 : (b != 3) = true := by simp [hb3]
        have HC2 := Lib.hid hb2
        have HC3 := Lib.hid hb3
        clear hb2 hb3
        have hN : formsF cs (i + 1) = (fs, (i : Int)) := by rw [HNX.out]; simp [HC2.out, HC3.out, show ¬ ((l : Int) < 0) from by omega]
        have HN := Lib.hid hN
        clear hN
        go_wp2_with (fail)
        go_roundw
        case rel => exact ⟨i + 1, by omega, by go_num, by rw [HN.out], by rw [HN.out]; exact HO2.out, HB2.out⟩
        case measure => simp [intOf]; omega
      by_cases hk2 : k = 2
      · subst hk2
        clear hk4 hk1
        by_cases hL0 : L < 0
        · have HL0 := Lib.hid hL0
          have hN : formsF cs (i + 1) = (fs, (i : Int)) := by rw [HNX.out]; simp [HL0.out]
          have HN := Lib.hid hN
          clear hN
          go_wp2_with (fail)
          go_roundw
          case rel => exact ⟨i + 1, by omega, by go_num, by rw [HN.out], by rw [HN.out]; exact HO1.out, HB1.out⟩
          case measure => simp [intOf]; omega
        obtain ⟨l, rfl⟩ : ∃ l : Nat, L = l := ⟨L.toNat, by omega⟩
        have hli : l < i := by omega
        have gl0 : (0 : Int) ≤ (l : Int) := by omega
        have gl1 : (l : Int) < (n : Int) := by omega
        obtain ⟨G2, o2, e2, hG2, hcl2⟩ := hd.at HB1.out l (by rw [HL.out]; omega)
        cases e2
        obtain ⟨z, hz⟩ : ∃ z, ith cs l = z := ⟨_, rfl⟩
        rw [hz] at hcl2
        obtain ⟨b, hb⟩ : ∃ b, joinI z = b := ⟨_, rfl⟩
        have hnx := HNX.out
        rw [Int.toNat_natCast, hz, hb] at hnx
        have HJ2 : Hid (∀ W, Calls Tryz.prog 133 #[.int .i32 z] W fun e w' => e = .returned (.int .i8 b) ∧ Below W.heap.size W w') := Lib.hid fun W => hb ▸ Join_any z W
        clear HNX hz hb
        have HNX := Lib.hid hnx
        clear hnx
        go_upto_region 14 with (go_at_call 133; refine (HJ2.out _).mono ?_; rintro e w2 ⟨rfl, hb2⟩)
        have hO2 := HO1.out.keep hb2
        have hB2 := HB1.out.trans (hb2.mono HB1.out.size)
        have HO2 := Lib.hid hO2
        have HB2 := Lib.hid hB2
        clear hcl2 hb2 hO2 hB2 HO1 HB1 HJ2
        by_cases hb2 : b = 2
        · subst hb2
          obtain ⟨_, hGe, _, _, hXo, hFo, _, _⟩ := HO2.out.at i (by rw [HFL.out]; omega)
          cases hGe
          generalize ith fs i = vi at hXo
          have hS := HO2.out.set i 3
          have hSB := HB2.out.setCell (p := ⟨w.heap.size, i, none⟩) (Nat.le_refl _) (.int .i8 3)
          go_upto_region 17 with (fail)
          clear hXo hFo
          generalize w2.setCell ⟨w.heap.size, i, none⟩ (.int .i8 3) = w3 at hS hSB ⊢
          have HO3 := Lib.hid hS
          have HB3 := Lib.hid hSB
          clear hS hSB
          obtain ⟨_, hGe, _, _, hXo, hFo, _, _⟩ := HO3.out.at l (by first | (rw [HFL.out]; omega) | (rw [List.length_set, HFL.out]; omega))
          cases hGe
          obtain ⟨vo, hvo⟩ : ∃ vo, ith (fs.set i 3) l = vo := ⟨_, rfl⟩
          rw [hvo] at hXo
          have HVO := Lib.hid hvo
          clear hvo
          by_cases hv3 : vo = 3
          · subst hv3
            have hS := OutAt.set HO3.out l 2
            have HS := Lib.hid hS
            have HSB := Lib.hid (HB3.out.setCell (p := ⟨w.heap.size, l, none⟩) (Nat.le_refl _) (.int .i8 2))
            clear hS
            have hN : formsF cs (i + 1) = ((fs.set i 3).set l 2, (i : Int)) := by rw [HNX.out]; simp [show ¬ ((l : Int) < 0) from by omega, HVO.out]
            have HN := Lib.hid hN
            clear hN
            go_wp2_with (fail)
            go_roundw
            case rel => exact ⟨i + 1, by omega, by go_num, by rw [HN.out], by rw [HN.out]; exact HS.out, HSB.out⟩
            case measure => simp [intOf]; omega
          · have ev3 : (vo == 3) = false := by rw [beq_eq_false_iff_ne]; exact hv3
            have hS := OutAt.set HO3.out l 1
            have HS := Lib.hid hS
            have HSB := Lib.hid (HB3.out.setCell (p := ⟨w.heap.size, l, none⟩) (Nat.le_refl _) (.int .i8 1))
            clear hS
            have HV3 := Lib.hid hv3
            clear hv3
            have hN : formsF cs (i + 1) = ((fs.set i 3).set l 1, (i : Int)) := by rw [HNX.out]; simp [show ¬ ((l : Int) < 0) from by omega, HVO.out, HV3.out]
            have HN := Lib.hid hN
            clear hN
            go_wp2_with (fail)
            go_roundw
            case rel => exact ⟨i + 1, by omega, by go_num, by rw [HN.out], by rw [HN.out]; exact HS.out, HSB.out⟩
            case measure => simp [intOf]; omega
        by_cases hb3 : b = 3
        · subst hb3
          clear hb2
          obtain ⟨_, hGe, _, _, hXo, hFo, _, _⟩ := HO2.out.at i (by rw [HFL.out]; omega)
          cases hGe
          generalize ith fs i = vi at hXo
          have hS := HO2.out.set i 3
          have hSB := HB2.out.setCell (p := ⟨w.heap.size, i, none⟩) (Nat.le_refl _) (.int .i8 3)
          go_upto_region 17 with (fail)
          clear hXo hFo
          generalize w2.setCell ⟨w.heap.size, i, none⟩ (.int .i8 3) = w3 at hS hSB ⊢
          have HO3 := Lib.hid hS
          have HB3 := Lib.hid hSB
          clear hS hSB
          have hN : formsF cs (i + 1) = (fs.set i 3, (i : Int)) := by rw [HNX.out]; simp [show ¬ ((l : Int) < 0) from by omega]
          have HN := Lib.hid hN
          clear hN
          go_wp2_with (fail)
          go_roundw
          case rel => exact ⟨i + 1, by omega, by go_num, by rw [HN.out], by rw [HN.out]; exact HO3.out, HB3.out⟩
          case measure => simp [intOf]; omega
        have eb2 : (b == 2) = false := by rw [beq_eq_false_iff_ne]; exact hb2
        have eb3 : (b == 3) = false := by rw [beq_eq_false_iff_ne]; exact hb3
        have nb2 : (b != 2) = true := by simp [hb2]
        have nb3 : (b != 3) = true := by simp [hb3]
        have HC2 := Lib.hid hb2
        have HC3 := Lib.hid hb3
        clear hb2 hb3
        have hN : formsF cs (i + 1) = (fs, (i : Int)) := by rw [HNX.out]; simp [HC2.out, HC3.out, show ¬ ((l : Int) < 0) from by omega]
        have HN := Lib.hid hN
        clear hN
        go_wp2_with (fail)
        go_roundw
        case rel => exact ⟨i + 1, by omega, by go_num, by rw [HN.out], by rw [HN.out]; exact HO2.out, HB2.out⟩
        case measure => simp [intOf]; omega
      by_cases hk3 : k = 3
      · subst hk3
        clear hk4 hk1 hk2
        by_cases hL0 : L < 0
        · have HL0 := Lib.hid hL0
          have hN : formsF cs (i + 1) = (fs, (i : Int)) := by rw [HNX.out]; simp [HL0.out]
          have HN := Lib.hid hN
          clear hN
          go_wp2_with (fail)
          go_roundw
          case rel => exact ⟨i + 1, by omega, by go_num, by rw [HN.out], by rw [HN.out]; exact HO1.out, HB1.out⟩
          case measure => simp [intOf]; omega
        obtain ⟨l, rfl⟩ : ∃ l : Nat, L = l := ⟨L.toNat, by omega⟩
        have hli : l < i := by omega
        have gl0 : (0 : Int) ≤ (l : Int) := by omega
        have gl1 : (l : Int) < (n : Int) := by omega
        obtain ⟨G2, o2, e2, hG2, hcl2⟩ := hd.at HB1.out l (by rw [HL.out]; omega)
        cases e2
        obtain ⟨z, hz⟩ : ∃ z, ith cs l = z := ⟨_, rfl⟩
        rw [hz] at hcl2
        obtain ⟨b, hb⟩ : ∃ b, joinI z = b := ⟨_, rfl⟩
        have hnx := HNX.out
        rw [Int.toNat_natCast, hz, hb] at hnx
        have HJ2 : Hid (∀ W, Calls Tryz.prog 133 #[.int .i32 z] W fun e w' => e = .returned (.int .i8 b) ∧ Below W.heap.size W w') := Lib.hid fun W => hb ▸ Join_any z W
        clear HNX hz hb
        have HNX := Lib.hid hnx
        clear hnx
        go_upto_region 14 with (go_at_call 133; refine (HJ2.out _).mono ?_; rintro e w2 ⟨rfl, hb2⟩)
        have hO2 := HO1.out.keep hb2
        have hB2 := HB1.out.trans (hb2.mono HB1.out.size)
        have HO2 := Lib.hid hO2
        have HB2 := Lib.hid hB2
        clear hcl2 hb2 hO2 hB2 HO1 HB1 HJ2
        by_cases hb2 : b = 2
        · subst hb2
          go_upto_region 17 with (fail)
          obtain ⟨_, hGe, _, _, hXo, hFo, _, _⟩ := HO2.out.at l (by first | (rw [HFL.out]; omega) | (rw [List.length_set, HFL.out]; omega))
          cases hGe
          obtain ⟨vo, hvo⟩ : ∃ vo, ith (fs) l = vo := ⟨_, rfl⟩
          rw [hvo] at hXo
          have HVO := Lib.hid hvo
          clear hvo
          by_cases hv3 : vo = 3
          · subst hv3
            have hS := OutAt.set HO2.out l 2
            have HS := Lib.hid hS
            have HSB := Lib.hid (HB2.out.setCell (p := ⟨w.heap.size, l, none⟩) (Nat.le_refl _) (.int .i8 2))
            clear hS
            have hN : formsF cs (i + 1) = ((fs).set l 2, (i : Int)) := by rw [HNX.out]; simp [show ¬ ((l : Int) < 0) from by omega, HVO.out]
            have HN := Lib.hid hN
            clear hN
            go_wp2_with (fail)
            go_roundw
            case rel => exact ⟨i + 1, by omega, by go_num, by rw [HN.out], by rw [HN.out]; exact HS.out, HSB.out⟩
            case measure => simp [intOf]; omega
          · have ev3 : (vo == 3) = false := by rw [beq_eq_false_iff_ne]; exact hv3
            have hS := OutAt.set HO2.out l 1
            have HS := Lib.hid hS
            have HSB := Lib.hid (HB2.out.setCell (p := ⟨w.heap.size, l, none⟩) (Nat.le_refl _) (.int .i8 1))
            clear hS
            have HV3 := Lib.hid hv3
            clear hv3
            have hN : formsF cs (i + 1) = ((fs).set l 1, (i : Int)) := by rw [HNX.out]; simp [show ¬ ((l : Int) < 0) from by omega, HVO.out, HV3.out]
            have HN := Lib.hid hN
            clear hN
            go_wp2_with (fail)
            go_roundw
            case rel => exact ⟨i + 1, by omega, by go_num, by rw [HN.out], by rw [HN.out]; exact HS.out, HSB.out⟩
            case measure => simp [intOf]; omega
        by_cases hb3 : b = 3
        · subst hb3
          clear hb2
          go_upto_region 17 with (fail)
          have hN : formsF cs (i + 1) = (fs, (i : Int)) := by rw [HNX.out]; simp [show ¬ ((l : Int) < 0) from by omega]
          have HN := Lib.hid hN
          clear hN
          go_wp2_with (fail)
          go_roundw
          case rel => exact ⟨i + 1, by omega, by go_num, by rw [HN.out], by rw [HN.out]; exact HO2.out, HB2.out⟩
          case measure => simp [intOf]; omega
        have eb2 : (b == 2) = false := by rw [beq_eq_false_iff_ne]; exact hb2
        have eb3 : (b == 3) = false := by rw [beq_eq_false_iff_ne]; exact hb3
        have nb2 : (b != 2) = true := by simp [hb2]
        have nb3 : (b != 3) = true := by simp [hb3]
        have HC2 := Lib.hid hb2
        have HC3 := Lib.hid hb3
        clear hb2 hb3
        have hN : formsF cs (i + 1) = (fs, (i : Int)) := by rw [HNX.out]; simp [HC2.out, HC3.out, show ¬ ((l : Int) < 0) from by omega]
        have HN := Lib.hid hN
        clear hN
        go_wp2_with (fail)
        go_roundw
        case rel => exact ⟨i + 1, by omega, by go_num, by rw [HN.out], by rw [HN.out]; exact HO2.out, HB2.out⟩
        case measure => simp [intOf]; omega
      have e4 : (k == 4) = false := by rw [beq_eq_false_iff_ne]; exact hk4
      have e1 : (k == 1) = false := by rw [beq_eq_false_iff_ne]; exact hk1
      have e2 : (k == 2) = false := by rw [beq_eq_false_iff_ne]; exact hk2
      have e3 : (k == 3) = false := by rw [beq_eq_false_iff_ne]; exact hk3
      have H1 := Lib.hid hk1
      have H2 := Lib.hid hk2
      have H3 := Lib.hid hk3
      have H4 := Lib.hid hk4
      clear hk1 hk2 hk3 hk4
      have hN : formsF cs (i + 1) = (fs, (i : Int)) := by rw [HNX.out]; simp [H1.out, H2.out, H3.out, H4.out]
      have HN := Lib.hid hN
      clear hN
      go_wp2_with (fail)
      go_roundw
      case rel => exact ⟨i + 1, by omega, by go_num, by rw [HN.out], by rw [HN.out]; exact HO1.out, HB1.out⟩
      case measure => simp [intOf]; omega
    · have hie : n = i := by omega
      subst hie
      rw [← HOI.out] at hO
      have HO1 := Lib.hid hO
      have HB1 := Lib.hid hbel
      clear hO hbel hi hlt
      go_wp2_with (fail)
      unfold Exit.noGoto
      go_ret
      exact ⟨rfl, HO1.out, HB1.out⟩
end
section
set_option linter.unusedVariables false
set_option linter.unusedSimpArgs false
open Go.RowKit

def shapedI (cs : List Int) : List Int := (List.range cs.length).map fun i => shapeI (ith cs i) (ith (formsI cs) i)
theorem shapedI_len (cs : List Int) : (shapedI cs).length = cs.length := by unfold shapedI; simp
/-- the shapes told so far -/
def shN (cs : List Int) (n i : Nat) : List Int := (List.range n).map fun j => if j < i then shapeI (ith cs j) (ith (formsI cs) j) else 0
theorem shN_len (cs : List Int) (n i : Nat) : (shN cs n i).length = n := by unfold shN; simp
theorem shN_ith (cs : List Int) (n i j : Nat) (h : j < n) : ith (shN cs n i) j = if j < i then shapeI (ith cs j) (ith (formsI cs) j) else 0 := by
  unfold shN ith
  rw [List.getD_eq_getElem?_getD, List.getElem?_map, List.getElem?_range h]
  rfl
theorem shN_next (cs : List Int) (n i : Nat) : (shN cs n i).set i (shapeI (ith cs i) (ith (formsI cs) i)) = shN cs n (i + 1) := by
  apply List.ext_getElem?
  intro j
  unfold shN
  rw [List.getElem?_set, List.getElem?_map, List.getElem?_map, List.length_map, List.length_range]
  by_cases hj : j < n
  · rw [List.getElem?_range hj]
    by_cases e : i = j
    · subst e
      simp [hj]
    · rw [if_neg e]
      simp only [Option.map_some]
      congr 1
      by_cases h1 : j < i
      · rw [if_pos h1, if_pos (by omega)]
      · rw [if_neg h1, if_neg (by omega)]
  · rw [List.getElem?_eq_none (by simp; omega)]
    simp
    intro e
    omega
theorem shN_all (cs : List Int) : shN cs cs.length cs.length = shapedI cs := by
  unfold shN shapedI
  apply List.map_congr_left
  intro j hj
  rw [if_pos (List.mem_range.1 hj)]
def ShapedPost (cs : List Int) (n : Nat) (w : World) (e : Ending) (w' : World) : Prop :=
  e = .returned (.slice (some ⟨w.heap.size, 0, none⟩) n n) ∧ OutAt .i32 21 w' w.heap.size (some ⟨w.heap.size, 0, none⟩) n (shapedI cs) ∧ Below w.heap.size w w'
set_option maxRecDepth 100000 in
set_option maxHeartbeats 2000000 in
theorem Shaped_any (a : Option Addr) (cs : List Int) (n c : Nat) (w : World) (hl : cs.length = n) (hd : Rd .i32 w a cs) (hn : n ≤ 2097152) :
    Calls Tryz.prog 79 #[.slice a n c] w (ShapedPost cs n w) := by
  obtain ⟨i3, hi3, hz3, ha3, hb3⟩ := info_parts (Tryz.info_rune)
  have HL := Lib.hid hl
  have hmk := run_make_row (P := Tryz.prog) 82 21 i3 (.int .i32 0) Tryz.underlying82 hi3 hz3 ha3 rfl .i64 .i64 n (by rw [hb3]; omega) (by omega)
  clear hl
  go_enter Tryz.func79, Tryz.ntmps79
  go_upto_region 2 with (fail)
  clear hmk
  have hO0 : OutAt .i32 21 (w.alloc (.cells (madeCells #[.int .i32 0] n) 21)) w.heap.size (some ⟨w.heap.size, 0, none⟩) n (shN cs n 0) :=
    out_of_row ((World.rowIs_made w (.int .i32 0) n 21).congr fun i hi => by rw [shN_ith _ _ _ _ hi, if_neg (Nat.not_lt_zero _)]) (shN_len _ _ _) (Nat.le_refl _) (by unfold maxLen; omega)
  have hb0 := (Below.refl w.heap.size w).alloc (Nat.le_refl _) (.cells (madeCells #[.int .i32 0] n) 21)
  have hs0 : w.heap.size < (w.alloc (.cells (madeCells #[.int .i32 0] n) 21)).heap.size := by simp
  generalize w.alloc (.cells (madeCells #[.int .i32 0] n) 21) = w0 at hO0 hb0 hs0 ⊢
  have HFO := Lib.hid (Forms_any a cs n c w0 HL.out (hd.below hb0) hn)
  have HO0 := Lib.hid hO0
  have HB0 := Lib.hid hb0
  clear hO0 hb0
  go_upto_block 0 with (go_at_call 106; refine HFO.out.mono ?_; rintro e w1 ⟨rfl, ho1, hb1⟩)
  have HO1 := Lib.hid (HO0.out.keep hb1)
  have HB1 := Lib.hid (HB0.out.trans (hb1.mono HB0.out.size))
  have HF1 := Lib.hid ho1
  clear ho1 hb1 HFO HO0 HB0
  obtain ⟨B0, hB0⟩ : ∃ B0, w0.heap.size = B0 := ⟨_, rfl⟩
  rw [hB0] at HF1 hs0 ⊢
  clear hB0
  go_wp2_with (fail)
  go_loopw [4, 5, 12] (fun _ _ u wx => ∃ i : Nat, i ≤ n ∧ u = .int .i64 i ∧ OutAt .i32 21 wx w.heap.size (some ⟨w.heap.size, 0, none⟩) n (shN cs n i) ∧ OutAt .i8 22 wx B0 (some ⟨B0, 0, none⟩) n (formsI cs) ∧ Below w.heap.size w wx) (fun _ _ u _ => n - (intOf u).toNat)
  case atStart => exact ⟨0, by omega, rfl, HO1.out, HF1.out, HB1.out⟩
  case round =>
    obtain ⟨i, hi, rfl, hO, hF, hbel⟩ := hrel
    clear HO1 HF1 HB1
    by_cases hlt : i < n
    · obtain ⟨G, o, rfl, hG, hcl⟩ := hd.at hbel i (by rw [HL.out]; exact hlt)
      obtain ⟨_, hGe, _, _, hXo, hFo, _, _⟩ := hO.at i (by rw [shN_len]; exact hlt)
      cases hGe
      obtain ⟨_, hGe, _, hGl, hXf, _, _, _⟩ := hF.at i (by rw [formsI_len, HL.out]; exact hlt)
      cases hGe
      have hnx := shN_next cs n i
      obtain ⟨y, hy⟩ : ∃ y, ith cs i = y := ⟨_, rfl⟩
      obtain ⟨f, hf⟩ : ∃ f, ith (formsI cs) i = f := ⟨_, rfl⟩
      rw [hy] at hcl hnx
      rw [hf] at hXf hnx
      obtain ⟨x, hx⟩ : ∃ x, shapeI y f = x := ⟨_, rfl⟩
      rw [hx] at hnx
      have HSH : Hid (∀ W, Calls Tryz.prog 107 #[.int .i32 y, .int .i8 f] W fun e w' => e = .returned (.int .i32 x) ∧ Below W.heap.size W w') := Lib.hid fun W => hx ▸ Shape_any y f W
      have HNX := Lib.hid hnx
      have HO := Lib.hid hO
      have HF := Lib.hid hF
      have HBE := Lib.hid hbel
      generalize ith (shN cs n i) i = vo at hXo
      have gi0 : (0 : Int) ≤ (i : Int) := by omega
      have gi1 : (i : Int) < (n : Int) := by omega
      have hzl : w.heap.size < wr.heap.size := HO.out.lt.2
      clear hO hF hbel hy hf hx hnx
      go_wp2_with (go_at_call 107; refine (HSH.out _).mono ?_; rintro e w2 ⟨rfl, hw2⟩; have hx2 := (hw2.cell (p := ⟨w.heap.size, i, none⟩) hzl).trans hXo; have hf2 := (hw2.frozen (p := ⟨w.heap.size, i, none⟩) hzl).trans hFo; have HW2 := Lib.hid hw2; clear hw2)
      have hO3 := (HO.out.keep HW2.out).set i x
      rw [HNX.out] at hO3
      have hF3 : OutAt .i8 22 (w2.setCell ⟨w.heap.size, i, none⟩ (.int .i32 x)) B0 (some ⟨B0, 0, none⟩) n (formsI cs) := row_other (HF.out.keep HW2.out) (fun g hg => by cases hg; show B0 ≠ w.heap.size; omega)
      have hb3 : Below w.heap.size w (w2.setCell ⟨w.heap.size, i, none⟩ (.int .i32 x)) := (HBE.out.trans (HW2.out.mono HBE.out.size)).setCell (p := ⟨w.heap.size, i, none⟩) (Nat.le_refl _) _
      have HO3 := Lib.hid hO3
      have HF3 := Lib.hid hF3
      have HB3 := Lib.hid hb3
      clear hO3 hF3 hb3
      go_roundw
      case rel => exact ⟨i + 1, by omega, by go_num, HO3.out, HF3.out, HB3.out⟩
      case measure => simp [intOf]; omega
    · have hie : i = n := by omega
      subst hie
      have hall : shN cs i i = shapedI cs := by rw [← HL.out]; exact shN_all cs
      rw [hall] at hO
      have HO := Lib.hid hO
      have HB := Lib.hid hbel
      clear hO hF hbel hall
      go_wp2_with (fail)
      go_ret
      exact ⟨rfl, HO.out, HB.out⟩
end
section
set_option linter.unusedVariables false
set_option linter.unusedSimpArgs false
open Go.RowKit Go.Proofs
section
variable {P : Program} {ops : Array Oper} {Q : Exit → Act → World → Prop} {md : Region.Mode} {S : World → Prop}
def setL : List Nat → Array Bool → Array Bool
  | [], l => l
  | k :: ks, l => setL ks (l.setIfInBounds k true)
def headP (md : Region.Mode) (ops : Array Oper) : List Nat → Array Bool → Bool
  | [], _ => true
  | k :: ks, l => (Region.ready md ops l).contains k && Region.free md ops l k && plainAt ops k && headP md ops ks (l.setIfInBounds k true)
/-- the operations at these places -/
def opsAt (ops : Array Oper) (ks : List Nat) : List Oper := ks.filterMap fun k => ops[k]?
theorem head_walkP (hs : Region.noSelect ops = true) (hQ : ∀ c a a' w, Q (.panic c) a w → Q (.panic c) a' w) {Lq : Act → Prop} {fuel : Nat} {w : World} (hS : S w) :
    ∀ (h : List Oper) (ks : List Nat) (l : Array Bool) (a : Act), ks.map (fun k => ops[k]?) = h.map some → headP md ops ks l = true → wpQuiet P ops (CS S) Lq h a →
      (∀ a', Lq a' → wpAnyH P md ops Q S fuel (setL ks l) a' w) → wpAnyH P md ops Q S (h.length + fuel) l a w
  | [], [], l, a, _, _, hw, hn => by rw [List.length_nil, Nat.zero_add]; exact hn a hw
  | [], k :: ks, l, a, he, _, _, _ => by simp at he
  | o :: h, [], l, a, he, _, _, _ => by simp at he
  | o :: h, k :: ks, l, a, he, hB, hw, hn => by
    simp only [List.map_cons, List.cons.injEq] at he
    obtain ⟨h0, he'⟩ := he
    simp only [headP, Bool.and_eq_true] at hB
    obtain ⟨⟨⟨hr, hf⟩, hp⟩, hB'⟩ := hB
    have hpl : plainB o = true := by unfold plainAt at hp; rw [h0] at hp; exact hp
    have hq : ∃ v, YieldsIf P ops S o v a ∧ wpQuiet P ops (CS S) Lq h (a.put o.dst v) := by
      unfold wpQuiet at hw
      split at hw
      · rename_i hwt
        obtain ⟨v, h1, h2⟩ := hw
        exact ⟨v, .inl ⟨hwt, fun w' hw' => quiet_plain hpl (h1 w' (CS.of hw'))⟩, h2⟩
      · rename_i hwt
        exact ⟨undef, .inr ⟨by simpa using hwt, rfl⟩, hw⟩
    obtain ⟨v, hy, hw2⟩ := hq
    rw [List.length_cons, show h.length + 1 + fuel = (h.length + fuel) + 1 by omega]
    refine wpAnyH_take h0 hs hf hr (fun c a' w' hh => hQ c _ _ w' hh) hy hS ?_
    exact head_walkP hs hQ hS h ks _ _ he' hB' hw2 hn
theorem headP_ops : ∀ (ks : List Nat) (l : Array Bool), headP md ops ks l = true → ks.map (fun k => ops[k]?) = (opsAt ops ks).map some
  | [], _, _ => rfl
  | k :: ks, l, h => by
    simp only [headP, Bool.and_eq_true] at h
    obtain ⟨⟨_, hp⟩, hB⟩ := h
    cases ho : ops[k]? with
    | none => unfold plainAt at hp; rw [ho] at hp; cases hp
    | some o =>
      have := headP_ops ks _ hB
      unfold opsAt at this ⊢
      rw [List.map_cons, this, List.filterMap_cons, ho]
      rfl
def segHP (P : Program) (ops : Array Oper) (S : World → Prop) (Q : Exit → Act → World → Prop) : List (List Nat × Nat) → List Nat → Act → World → Prop
  | [], z, a, w => wpQuiet P ops (fun w' => ∃ p : WIn S, w' = p.w) (fun a' => Q .normal a' w) (opsAt ops z) a
  | x :: t, z, a, w => wpQuiet P ops (fun w' => ∃ p : WIn S, w' = p.w) (fun a' => ∀ K : Act → World → Prop, (∀ a w, S w → segHP P ops S Q t z a w → K a w) → wpList P ops (Exit.then K Q) (opsAt ops [x.2]) a' w) (opsAt ops x.1) a
def segP (md : Region.Mode) (ops : Array Oper) : List (List Nat × Nat) → List Nat → Array Bool → Bool
  | [], z, l => headP md ops z l && (Region.ready md ops (setL z l)).isEmpty
  | x :: t, z, l => headP md ops x.1 l && decide (Region.ready md ops (setL x.1 l) = [x.2]) && loudAt ops x.2 && segP md ops t z ((setL x.1 l).setIfInBounds x.2 true)
def cntP (ops : Array Oper) : List (List Nat × Nat) → List Nat → Nat
  | [], z => (opsAt ops z).length
  | x :: t, z => (opsAt ops x.1).length + (cntP ops t z + 1)
theorem seg_walkP (hs : Region.noSelect ops = true) (hQ : ∀ c a a' w, Q (.panic c) a w → Q (.panic c) a' w) :
    ∀ (t : List (List Nat × Nat)) (z : List Nat) (li : Array Bool) (a : Act) (w : World), segP md ops t z li = true → S w → segHP P ops S Q t z a w → wpAnyH P md ops Q S (cntP ops t z) li a w
  | [], z, li, a, w, hB, hS, h => by
    simp only [segP, Bool.and_eq_true] at hB
    unfold segHP at h
    have := head_walkP (fuel := 0) hs hQ hS (opsAt ops z) z li a (headP_ops z li hB.1) hB.1 h (fun a' ha => wpAnyH_done (by simpa using hB.2) ha 0)
    simpa [cntP] using this
  | x :: t, z, li, a, w, hB, hS, h => by
    simp only [segP, Bool.and_eq_true, decide_eq_true_eq] at hB
    obtain ⟨⟨⟨hB1, hr⟩, hl⟩, hB2⟩ := hB
    unfold segHP at h
    unfold cntP
    cases hok : ops[x.2]? with
    | none => unfold loudAt at hl; rw [hok] at hl; cases hl
    | some o =>
      have hg : ∀ a' : Act, Region.wanted o (yielded ops a'.tmps) = true := fun a' => by
        unfold loudAt at hl
        rw [hok] at hl
        unfold Region.wanted
        have : o.guard = none := by simpa using hl
        rw [this]
      have hd : opsAt ops [x.2] = [o] := by unfold opsAt; simp [hok]
      refine head_walkP hs hQ hS (opsAt ops x.1) x.1 li a (headP_ops x.1 li hB1) hB1 h (fun a' ha => ?_)
      rw [hd] at ha
      exact loud_walk hok hr hS (hg a') ha (fun a2 w2 hS2 h2 => seg_walkP hs hQ t z _ a2 w2 hB2 hS2 h2)
/-- a drawn region, its operations taken in the caller's order: heads (what only reads, the loud one), a last head -/
theorem wp_region_segP {id : Nat} {a : Act} {w : World} {l : List Oper} (S : World → Prop) (t : List (List Nat × Nat)) (z : List Nat) (hm : P.follows .mixedOrders = true)
    (hB : (Region.noSelect l.toArray && segP .any l.toArray t z (Array.replicate l.length false) && decide (cntP l.toArray t z = l.length)) = true)
    (hS : S w.drew) (h : segHP P l.toArray S (NoPanic Q) t z a w.drew) : (Code.region id l.toArray true).wp P Q a w := by
  simp only [Bool.and_eq_true, decide_eq_true_eq] at hB
  refine wp_region_noPanic (wp_region_any hm (wpAny_of_held _ _ _ _ (?_ : wpAnyH P .any l.toArray (NoPanic Q) S _ _ a w.drew)))
  have := seg_walkP (md := .any) hB.1.1 (fun _ _ _ _ h => h) t z _ a w.drew hB.1.2 hS h
  rw [hB.2] at this
  simpa using this
end
end
section
set_option linter.unusedVariables false
set_option linter.unusedSimpArgs false

/-- the characters that the clusters are made of -/
def madeI (s : ByteArray) (join : Bool) (fr tt : Nat) : List Int := if join = true then shapedI (runesI (s.extract fr tt)) else runesI (s.extract fr tt)
theorem madeI_len (s : ByteArray) (join : Bool) (fr tt : Nat) : (madeI s join fr tt).length = (runesI (s.extract fr tt)).length := by
  unfold madeI
  split
  · exact shapedI_len _
  · rfl
/-- a row's clusters: their levels, what they become -/
def lay2 (s : ByteArray) (want : Int) (join raw : Bool) (ra rl : Int) : List Pc :=
  (levelsI s want raw (rowFr s ra) (foundI s (rowFr s ra) (rowTo s ra rl))).map (changeP s (madeI s join (rowFr s ra) (rowTo s ra rl)))
/-- what is shown of them, and all columns -/
def lay3 (s : ByteArray) (tab want : Int) (wideA join raw : Bool) (ra rl rw : Int) : List Pc × Int :=
  layF rw tab wideA raw (lay2 s want join raw ra rl) 0 0 (tailF s (lay2 s want join raw ra rl) (lay2 s want join raw ra rl).length)
def laySeen (s : ByteArray) (want : Int) (join raw : Bool) (ra rl : Int) : List Int := orderI ((lay2 s want join raw ra rl).map (·.level))
def layL (s : ByteArray) (tab want : Int) (wideA join raw : Bool) (ra rl rw : Int) : List Pc := edgeF (laySeen s want join raw ra rl) 0 (lay3 s tab want wideA join raw ra rl rw).1
def layI (s : ByteArray) (tab want : Int) (wideA join raw : Bool) (ra rl rw : Int) : LaidR :=
  ⟨layL s tab want wideA join raw ra rl rw, laySeen s want join raw ra rl, rowFr s ra, rowTo s ra rl, baseR s want raw, (lay3 s tab want wideA join raw ra rl rw).2⟩
/-- a cell -/
structure Ce where
  text : ByteArray
  part : Int
  a : Nat
  len : Nat
  right : Bool
deriving DecidableEq
def dotS : ByteArray := ⟨#[226, 151, 140]⟩
def dotB (s : ByteArray) : Bool := decide (3 ≤ s.size) && decide (s.extract 0 3 = dotS)
def wholeB (p : Pc) : Bool := decide (p.shown = p.became) || dotB p.shown
def oddB (p : Pc) : Bool := decide (p.level % 2 = 1)
/-- the cells of a cluster -/
def cellsP (p : Pc) : List Ce :=
  (List.range p.wide.toNat).map fun (i : Nat) =>
    if wholeB p = true then Ce.mk (if i = 0 then p.shown else ⟨#[]⟩) (i : Int) p.a p.size (oddB p)
    else Ce.mk ⟨#[p.shown.get! i]⟩ 0 p.a p.size (oddB p)
def cellsF (L : List Pc) : List Int → List Ce
  | [] => []
  | i :: t => (if 0 < (L.getD i.toNat default).wide then cellsP (L.getD i.toNat default) else []) ++ cellsF L t
def cellsI (W : LaidR) : List Ce := cellsF W.l W.seen
def asciiB (s : ByteArray) : Bool := s.data.toList.all fun b => decide (b.toNat < 128)
/-- a cluster whose cells can be told -/
def GoodP (p : Pc) : Prop := 0 < p.wide → p.wide ≤ 19 ∧ (wholeB p = true ∨ asciiB p.shown = true ∧ p.wide = p.shown.size)
/-- an edge -/
def edgeI (W : LaidR) (i : Nat) (back : Bool) : Int :=
  if back = true ∧ i = 0 then (if W.base % 2 = 1 then W.wide else 0)
  else if back = true then (if oddB (W.l.getD (i - 1) default) = true then (W.l.getD (i - 1) default).e0 else (W.l.getD (i - 1) default).e1)
  else if i = W.l.length then (if W.base % 2 = 1 then 0 else W.wide)
  else (if oddB (W.l.getD i default) = true then (W.l.getD i default).e1 else (W.l.getD i default).e0)
def leftF (c : Int) : List Pc → Nat
  | [] => 0
  | p :: t => if ((p.a + p.size : Nat) : Int) ≤ c then leftF c t + 1 else 0
def placeI (W : LaidR) (c : Int) (back : Bool) : Int := edgeI W (leftF c W.l) back

theorem tailF_le (s : ByteArray) (L : List Pc) : ∀ t, tailF s L t ≤ t
  | 0 => Nat.le_refl _
  | t + 1 => by
    rw [tailF]
    split
    · have := tailF_le s L t; omega
    · exact Nat.le_refl _
/-- a cluster's own: all but what is shown and where -/
def core (p : Pc) : Pc := { p with shown := ⟨#[]⟩, wide := 0, e0 := 0, e1 := 0 }
/-- the tail, when a cluster has been told -/
def tlF (rw : Int) (i : Nat) (x n t : Int) : Int := if t ≤ (i : Int) ∧ rw < x + n then -1 else t
theorem layF_cons (rw tab : Int) (wideA raw : Bool) (p : Pc) (L : List Pc) (i : Nat) (x t : Int) : layF rw tab wideA raw (p :: L) i x t =
    if 0 ≤ tlF rw i x (textI p.became x tab wideA raw).2 t then
      ({ p with shown := (textI p.became x tab wideA raw).1, wide := (textI p.became x tab wideA raw).2 } :: (layF rw tab wideA raw L (i + 1) (x + (textI p.became x tab wideA raw).2) (tlF rw i x (textI p.became x tab wideA raw).2 t)).1,
        (layF rw tab wideA raw L (i + 1) (x + (textI p.became x tab wideA raw).2) (tlF rw i x (textI p.became x tab wideA raw).2 t)).2)
    else (p :: (layF rw tab wideA raw L (i + 1) x (-1)).1, (layF rw tab wideA raw L (i + 1) x (-1)).2) := rfl
theorem layF_len (rw tab : Int) (wideA raw : Bool) : ∀ (L : List Pc) (i : Nat) (x t : Int), (layF rw tab wideA raw L i x t).1.length = L.length
  | [], _, _, _ => rfl
  | p :: L, i, x, t => by
    rw [layF_cons]
    by_cases h : 0 ≤ tlF rw i x (textI p.became x tab wideA raw).2 t
    · rw [if_pos h]; simp only [List.length_cons, layF_len rw tab wideA raw L]
    · rw [if_neg h]; simp only [List.length_cons, layF_len rw tab wideA raw L]
/-- what a laid cluster is -/
def LaidP (tab : Int) (wideA raw : Bool) (p q : Pc) : Prop := q = p ∨ ∃ x : Int, q = { p with shown := (textI p.became x tab wideA raw).1, wide := (textI p.became x tab wideA raw).2 }
theorem layF_get (rw tab : Int) (wideA raw : Bool) : ∀ (L : List Pc) (i : Nat) (x t : Int) (j : Nat) (p : Pc), L[j]? = some p → ∃ q, (layF rw tab wideA raw L i x t).1[j]? = some q ∧ LaidP tab wideA raw p q
  | [], _, _, _, j, p, h => by simp at h
  | r :: L, i, x, t, 0, p, h => by
    have : r = p := by simpa using h
    subst this
    rw [layF_cons]
    by_cases h2 : 0 ≤ tlF rw i x (textI r.became x tab wideA raw).2 t
    · rw [if_pos h2]; exact ⟨_, rfl, .inr ⟨x, rfl⟩⟩
    · rw [if_neg h2]; exact ⟨_, rfl, .inl rfl⟩
  | r :: L, i, x, t, j + 1, p, h => by
    rw [layF_cons]
    by_cases h2 : 0 ≤ tlF rw i x (textI r.became x tab wideA raw).2 t
    · rw [if_pos h2]; exact layF_get rw tab wideA raw L _ _ _ j p (by simpa using h)
    · rw [if_neg h2]; exact layF_get rw tab wideA raw L _ _ _ j p (by simpa using h)
/-- the columns of clusters -/
def wsum : List Pc → Int
  | [] => 0
  | p :: t => p.wide + wsum t
theorem layF_sum (rw tab : Int) (wideA raw : Bool) : ∀ (L : List Pc) (i : Nat) (x t : Int), (∀ p ∈ L, p.wide = 0) → (layF rw tab wideA raw L i x t).2 = x + wsum (layF rw tab wideA raw L i x t).1
  | [], _, x, _, _ => by simp [layF, wsum]
  | p :: L, i, x, t, h => by
    have h1 := h p (List.mem_cons_self ..)
    have h2 : ∀ q ∈ L, q.wide = 0 := fun q hq => h q (List.mem_cons_of_mem _ hq)
    rw [layF_cons]
    by_cases h3 : 0 ≤ tlF rw i x (textI p.became x tab wideA raw).2 t
    · rw [if_pos h3]
      dsimp only
      rw [layF_sum rw tab wideA raw L _ _ _ h2, wsum]
      dsimp only
      omega
    · rw [if_neg h3]
      dsimp only
      rw [layF_sum rw tab wideA raw L _ _ _ h2, wsum, h1]
      omega
theorem edgeF_len : ∀ (o : List Int) (x : Int) (L : List Pc), (edgeF o x L).length = L.length
  | [], _, _ => rfl
  | i :: t, x, L => by rw [edgeF, edgeF_len t, List.length_set]
theorem edgeF_get : ∀ (o : List Int) (x : Int) (L : List Pc) (j : Nat) (p : Pc), L[j]? = some p → ∃ u v, (edgeF o x L)[j]? = some { p with e0 := u, e1 := v }
  | [], x, L, j, p, h => ⟨p.e0, p.e1, h⟩
  | i :: t, x, L, j, p, h => by
    rw [edgeF]
    by_cases e : i.toNat = j
    · subst e
      have hg : L.getD i.toNat default = p := by rw [List.getD_eq_getElem?_getD, h]; rfl
      have hl := (List.getElem?_eq_some_iff.1 h).1
      obtain ⟨u, v, hu⟩ := edgeF_get t (x + p.wide) (L.set i.toNat { p with e0 := x, e1 := x + p.wide }) i.toNat { p with e0 := x, e1 := x + p.wide } (by rw [List.getElem?_set]; simp [hl])
      exact ⟨u, v, by rw [hg]; exact hu⟩
    · exact edgeF_get t _ _ j p (by rw [List.getElem?_set, if_neg e]; exact h)
end
end Go.Proofs.YtlbclfmbejjneaaGreatDoor
