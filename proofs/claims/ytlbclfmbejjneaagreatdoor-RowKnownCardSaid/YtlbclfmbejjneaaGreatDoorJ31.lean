/- Part 31 of the proof (merged by a program out of the texts RunesC, LevW): lemmas of no further condition than each states. -/
import Derived.Test.YtlbclfmbejjneaaGreatDoorJ30
namespace Go.Proofs.YtlbclfmbejjneaaGreatDoor
set_option linter.unusedVariables false
set_option linter.unusedSimpArgs false
section
open Go.RowKit Go.Proofs Go.Shelf
attribute [local go_sem] Oper.semAt_some
theorem conv_str2 (d : ByteArray) (hz : d.size ≤ 2097152) :
 ∃ (C : World → Nat) (F : World → World), (∀ w, (convert 9 82 (.string d)).run Tryz.prog w = .ok (.slice (some ⟨w.heap.size, 0, none⟩) (runesI d).length (C w)) (F w)) ∧
   ∀ w, Below w.heap.size w (F w) ∧ Rd .i32 (F w) (some ⟨w.heap.size, 0, none⟩) (runesI d) ∧ (runesI d).length ≤ C w ∧ C w ≤ 9223372036854775807 := by
 have hs : Conv.runesFrom d d.size 0 #[] = ((runesI d).map (Value.int .i32)).toArray := by
  rw [runes_conv]; unfold runesI; simp
 have hsz : (Conv.runesFrom d d.size 0 #[]).size = (runesI d).length := by rw [hs]; simp
 have hle := runesF_len d d.size 0
 refine ⟨fun w => grownCap w (runesI d).length 0 21, fun w => w.drew.alloc (.cells (Conv.runesFrom d d.size 0 #[] ++ Array.replicate (grownCap w (runesI d).length 0 21 - (runesI d).length) (.int .i32 0)) 21), fun w => ?_, fun w => ⟨?_, ?_, ?_, ?_⟩⟩
 ·have := run_runes_of_string (P := Tryz.prog) w 9 82 21 d Tryz.underlying9 Tryz.underlying82 Tryz.underlying21 (by rw [hsz]; unfold runesI; omega)
  rw [this, hsz]
 ·exact (Below.refl _ _).drew.alloc (Nat.le_refl _) _
 ·exact runes_rd w d 21 _
 ·exact grownCap_ge w (runesI d).length 0 21
 ·have h1 : (runesI d).length ≤ d.size := by unfold runesI; omega
  have h2 := grownCap_le_maxLen w (runesI d).length 0 21 (by unfold maxLen; omega)
  unfold maxLen at h2
  show grownCap w (runesI d).length 0 21 ≤ 9223372036854775807
  omega
theorem runesI_len (d : ByteArray) : (runesI d).length ≤ d.size := by
 have hle := runesF_len d d.size 0
 unfold runesI; omega
theorem Runes_at (d : ByteArray) (hz : d.size ≤ 2097152) (w : World) :
 Calls Tryz.prog 76 #[.string d] w fun e w' => ∃ c, e = .returned (.slice (some ⟨w.heap.size, 0, none⟩) (runesI d).length c) ∧ Rd .i32 w' (some ⟨w.heap.size, 0, none⟩) (runesI d) ∧ (runesI d).length ≤ c ∧ c ≤ 9223372036854775807 ∧ Below w.heap.size w w' := by
 obtain ⟨C, F, hcv, hF⟩ := conv_str2 d hz
 go_enter Tryz.func76, Tryz.ntmps76
 go_wp2_with (fail)
 go_ret
 exact ⟨_, rfl, (hF w).2.1, (hF w).2.2.1, (hF w).2.2.2, (hF w).1⟩
theorem rd_set {k : IntKind} {w : World} {g o b i : Nat} {xs : List Int} {v : Value} (h : Rd k w (some ⟨g, o, none⟩) xs) (hne : b ≠ g) : Rd k (w.setCell ⟨b, i, none⟩ v) (some ⟨g, o, none⟩) xs := by
 rcases h with h | ⟨c, off, e, h1, h2⟩
 ·exact .inl h
 ·cases e
  exact .inr ⟨g, o, rfl, Nat.lt_of_lt_of_le h1 (KeepsWalks.setCell w ⟨b, i, none⟩ v).size, fun j hj => (World.cell?_setCell_far _ _ _ _ hne).trans (h2 j hj)⟩
end
section
open Go.RowKit Go.Proofs Go.Shelf
attribute [local go_sem] Oper.semAt_some
theorem bl_set {b : Nat} {A W : World} (h : Below b A W) (i : Nat) (v : Value) : Below b A (W.setCell ⟨b, i, none⟩ v) := h.setCell (p := ⟨b, i, none⟩) (Nat.le_refl _) v
structure LvS (w : World) (b : Nat) (lv sv : Value) (fr tt bs : Nat) (wide : Int) (M : List Pc) (cg : Nat) (cs : List Int) (vb : Nat) (va : Option Addr) (vc : Nat) (vs : List Int) (W : World) : Prop where
 ld : LdB W b lv sv fr tt bs wide
 own : OwnS pcE 75 W (b + 1) lv M
 rd : Rd .i32 W (some ⟨cg, 0, none⟩) cs
 vo : OutAt .u8 5 W vb va vc vs
 bel : Below b w W
section
variable {w W W' : World} {b : Nat} {lv sv : Value} {fr tt bs : Nat} {wide : Int} {M : List Pc} {cg : Nat} {cs : List Int} {vb : Nat} {va : Option Addr} {vc : Nat} {vs : List Int}
theorem LvS.below (h : LvS w b lv sv fr tt bs wide M cg cs vb va vc vs W) (hb : Below W.heap.size W W') : LvS w b lv sv fr tt bs wide M cg cs vb va vc vs W' :=
 ⟨h.ld.below hb h.ld.lt, h.own.keep hb, h.rd.below hb, h.vo.keep hb, h.bel.trans (hb.mono (Nat.le_of_lt h.ld.lt))⟩
theorem LvS.drew (h : LvS w b lv sv fr tt bs wide M cg cs vb va vc vs W) : LvS w b lv sv fr tt bs wide M cg cs vb va vc vs W.drew := ⟨h.ld, h.own, h.rd, h.vo, h.bel.drew⟩
end
structure LwS (w : World) (b G cap : Nat) (sv : Value) (fr tt bs : Nat) (wide : Int) (M : List Pc) (i : Nat) (p : Pc) (P : Nat) (oa : Option Addr) (oc : Nat) (own : List Int) (W : World) : Prop where
 ld : LdB W b (.slice (some ⟨G, 0, none⟩) M.length cap) sv fr tt bs wide
 row : ∃ y : Nat, OwnS pcE 75 W (b + 1) (.slice (some ⟨G, 0, none⟩) M.length cap) (M.set i { p with level := y })
 box : W.heap[P]? = some (.cells #[.int .i64 p.a, .int .i64 p.size, .int .i64 p.c0, .int .i64 p.c1, .int .u8 p.level, .string p.became, .string p.shown, .int .i64 p.wide, .int .i64 p.e0, .int .i64 p.e1] 75 (0, 0))
 out : OutAt .u8 5 W (b + 1) oa oc own
 bel : Below b w W
theorem LwS.drew {w : World} {b G cap : Nat} {sv : Value} {fr tt bs : Nat} {wide : Int} {M : List Pc} {i : Nat} {p : Pc} {P : Nat} {oa : Option Addr} {oc : Nat} {own : List Int} {W : World} (h : LwS w b G cap sv fr tt bs wide M i p P oa oc own W) : LwS w b G cap sv fr tt bs wide M i p P oa oc own W.drew := ⟨h.ld, h.row, h.box, h.out, h.bel.drew⟩
theorem LwS.set {w : World} {b G cap : Nat} {sv : Value} {fr tt bs : Nat} {wide : Int} {M : List Pc} {i : Nat} {p : Pc} {P : Nat} {oa : Option Addr} {oc : Nat} {own : List Int} {W : World} (h : LwS w b G cap sv fr tt bs wide M i p P oa oc own W) (hi : i < M.length) (hP : G ≠ P) (x : Nat) :
 LwS w b G cap sv fr tt bs wide M i p P oa oc own (W.setCell ⟨G, i * 10 + 4, none⟩ (.int .u8 x)) := by
 obtain ⟨h1, ⟨y, h2⟩, h3, h4, h5⟩ := h
 have hG := World.ownsRow.lt h2 G rfl
 have hml : (M.set i { p with level := y }).length = M.length := List.length_set
 have hge : (M.set i { p with level := y })[i]? = some { p with level := y } := by rw [List.getElem?_set]; simp [hi]
 refine ⟨box_other h1 (by omega), ⟨x, ?_⟩, box_other h3 (fun e => hP e.symm), ?_, h5.trans ((Below.refl _ W).setCell (p := ⟨G, i * 10 + 4, none⟩) (show b ≤ G by omega) _)⟩
 ·have := OwnS.set (cap := cap) (by rw [hml]; exact h2) i _ { p with level := x } hge 4 (.int .u8 x) (by decide) rfl
  rw [List.set_set, List.length_set] at this
  exact this
 ·refine row_other h4 (fun g hg e => ?_)
  subst e
  rcases h4.2 with ⟨e1, _⟩ | ⟨g', c', cur, e1, _, hb, _⟩
  ·rw [e1] at hg; cases hg
  ·rw [e1] at hg
   have : g' = g := Option.some.inj hg
   subst this
   rcases h2.2 with ⟨e2, _⟩ | ⟨g2, c2, cur2, e2, _, hb2, _⟩
   ·simp at e2
   ·simp only [Value.slice.injEq, Option.some.injEq, Addr.mk.injEq] at e2
    obtain ⟨⟨rfl, _⟩, _⟩ := e2
    rw [hb] at hb2
    cases hb2
theorem LwS.rowx {w : World} {b G cap : Nat} {sv : Value} {fr tt bs : Nat} {wide : Int} {M : List Pc} {i : Nat} {p : Pc} {P : Nat} {oa : Option Addr} {oc : Nat} {own : List Int} {W : World} (h : LwS w b G cap sv fr tt bs wide M i p P oa oc own W) (hi : i < M.length) (x : Nat) :
 OwnS pcE 75 (W.setCell ⟨G, i * 10 + 4, none⟩ (.int .u8 x)) (b + 1) (.slice (some ⟨G, 0, none⟩) M.length cap) (M.set i { p with level := x }) := by
 obtain ⟨h1, ⟨y, h2⟩, h3, h4, h5⟩ := h
 have hml : (M.set i { p with level := y }).length = M.length := List.length_set
 have hge : (M.set i { p with level := y })[i]? = some { p with level := y } := by rw [List.getElem?_set]; simp [hi]
 have := OwnS.set (cap := cap) (by rw [hml]; exact h2) i _ { p with level := x } hge 4 (.int .u8 x) (by decide) rfl
 rw [List.set_set, List.length_set] at this
 exact this
theorem lastC_get {L : List Pc} {n : Nat} {p : Pc} (hn : L.length = n + 1) (h : L[n]? = some p) : lastC L = p.c1 := by
 unfold lastC
 rw [List.getLastD_eq_getLast?, List.getLast?_eq_getElem?, hn, Nat.add_sub_cancel, h]
 rfl
theorem out_addr {k : IntKind} {e base cap : Nat} {w : World} {ao : Option Addr} {out : List Int} (h : OutAt k e w base ao cap out) : (ao = none ∧ cap = 0) ∨ ∃ G o, ao = some ⟨G, o, none⟩ := by
 rcases h.2 with ⟨h1, h0⟩ | ⟨g, cap', cur, h1, _⟩
 ·simp only [Value.slice.injEq] at h1
  exact .inl ⟨h1.1, h1.2.2⟩
 ·simp only [Value.slice.injEq] at h1
  exact .inr ⟨g, 0, h1.1⟩
def lvP (own : List Nat) (L : List Pc) (i : Nat) : List Pc := (L.take i).map (levelP own) ++ L.drop i
theorem lvP_zero (own : List Nat) (L : List Pc) : lvP own L 0 = L := by unfold lvP; simp
theorem lvP_all (own : List Nat) (L : List Pc) : lvP own L L.length = L.map (levelP own) := by unfold lvP; simp
theorem lvP_len (own : List Nat) (L : List Pc) (i : Nat) (h : i ≤ L.length) : (lvP own L i).length = L.length := by unfold lvP; simp; omega
theorem lvP_get (own : List Nat) (L : List Pc) (i : Nat) (p : Pc) (h : L[i]? = some p) : (lvP own L i)[i]? = some p := by
 have hl := (List.getElem?_eq_some_iff.1 h).1
 unfold lvP
 rw [List.getElem?_append_right (by simp; omega)]
 simp only [List.length_map, List.length_take]
 rw [List.getElem?_drop, show i + (i - min i L.length) = i by omega]
 exact h
theorem lvP_next (own : List Nat) (L : List Pc) (i : Nat) (p : Pc) (h : L[i]? = some p) : (lvP own L i).set i (levelP own p) = lvP own L (i + 1) := by
 have hl := (List.getElem?_eq_some_iff.1 h).1
 unfold lvP
 have h1 : (List.map (levelP own) (L.take i)).length = i := by simp; omega
 rw [List.set_append_right _ _ (by omega), h1, Nat.sub_self, List.take_add_one, h, List.map_append, dropR_cons h, List.set_cons_zero, List.append_assoc]
 rfl
set_option maxRecDepth 100000 in
set_option maxHeartbeats 2000000 in
theorem rLev_any (s : ByteArray) (hs : s.size ≤ 2097152) (tab want : Int) (wideA join raw : Bool) (b : Nat) (lv sv : Value) (fr tt : Nat) (wide : Int) (L : List Pc) (w : World) (hL : LdB w b lv sv fr tt 0 wide) (hO : OwnS pcE 75 w (b + 1) lv L) (hfr : fr ≤ s.size)
 (hn : L.length ≤ 2097152) (hc : ∀ (i : Nat) (p : Pc), L[i]? = some p → p.c0 < lastC L) (hlast : (runesI (s.extract 0 fr)).length + lastC L ≤ (runesI s).length) :
 Calls Tryz.prog 49 #[.pointer (some ⟨b, 0, none⟩), .string s, lookV tab want wideA join raw] w fun e w' => e = .returned (.tuple #[]) ∧
  LdB w' b lv sv fr tt (baseR s want raw) wide ∧ OwnS pcE 75 w' (b + 1) lv (levelsI s want raw fr L) ∧ Below b w w' := by
 cases raw with
 | true =>
   have hbs : b < w.heap.size := hL.lt
   go_enter Tryz.func49, Tryz.ntmps49
   go_upto_region 1 with (fail)
   have hb0 : Below w.heap.size w (w.alloc (.cells #[.int .i64 tab, .bool wideA, .int .i8 want, .bool join, .bool true] 26)) := (Below.refl _ _).alloc (Nat.le_refl _) _
   have hx0 := World.alloc_heap_new w (.cells #[.int .i64 tab, .bool wideA, .int .i8 want, .bool join, .bool true] 26)
   generalize w.alloc (.cells #[.int .i64 tab, .bool wideA, .int .i8 want, .bool join, .bool true] 26) = W0 at hb0 hx0 ⊢
   have hs0 : w.heap.size < W0.heap.size := (Array.getElem?_eq_some_iff.1 hx0).1
   have l2 : W0.cell? ⟨w.heap.size, 2, none⟩ = some (.int .i8 want) := by simp [World.cell?, hx0]
   have l4 : W0.cell? ⟨w.heap.size, 4, none⟩ = some (.bool true) := by simp [World.cell?, hx0]
   have h0 : LdB W0 b lv sv fr tt 0 wide := hL.below hb0 hbs
   have o0 := hO.keep hb0
   have HB0 := Lib.hid hb0
   clear hb0 hx0 hL hO
   go_wp2_with (fail)
   exact bodyPost_ret (results_none rfl _ _ _) rfl ⟨rfl, h0, o0, HB0.out.mono (by omega)⟩
 | false =>
   obtain ⟨V, hV⟩ : ∃ V, visualI (runesI s) want = V := ⟨_, rfl⟩
   obtain ⟨bs, hbs0⟩ : ∃ bs : Nat, V.2 = bs := ⟨V.2.toNat, by rw [← hV]; unfold visualI; rcases baseF_bd want (((runesI s).map dirI).length + 1) ((runesI s).map dirI) with h | h <;> (unfold baseI; dsimp only; omega)⟩
   have hbR : baseR s want false = bs := by unfold baseR; rw [if_neg (by decide), hV, hbs0]; rfl
   have hlR : levelsI s want false fr L = L.map (levelP (ownLv s want fr (lastC L))) := by unfold levelsI; rw [if_neg (by decide)]
   rw [hbR, hlR]
   clear hbR hlR
   have hbs : b < w.heap.size := hL.lt
   go_enter Tryz.func49, Tryz.ntmps49
   go_upto_region 1 with (fail)
   have hb0 : Below w.heap.size w (w.alloc (.cells #[.int .i64 tab, .bool wideA, .int .i8 want, .bool join, .bool false] 26)) := (Below.refl _ _).alloc (Nat.le_refl _) _
   have hx0 := World.alloc_heap_new w (.cells #[.int .i64 tab, .bool wideA, .int .i8 want, .bool join, .bool false] 26)
   generalize w.alloc (.cells #[.int .i64 tab, .bool wideA, .int .i8 want, .bool join, .bool false] 26) = W0 at hb0 hx0 ⊢
   have hs0 : w.heap.size < W0.heap.size := (Array.getElem?_eq_some_iff.1 hx0).1
   have l2 : W0.cell? ⟨w.heap.size, 2, none⟩ = some (.int .i8 want) := by simp [World.cell?, hx0]
   have l4 : W0.cell? ⟨w.heap.size, 4, none⟩ = some (.bool false) := by simp [World.cell?, hx0]
   have h0 : LdB W0 b lv sv fr tt 0 wide := hL.below hb0 hbs
   have o0 := hO.keep hb0
   have HB0 := Lib.hid hb0
   clear hb0 hx0 hL hO
   obtain ⟨cs, hcs⟩ : ∃ cs, runesI s = cs := ⟨_, rfl⟩
   have hcn : cs.length ≤ 2097152 := by rw [← hcs]; have := runesI_len s; omega
   rw [hcs] at hV
   have HRU : Hid (∀ W : World, Calls Tryz.prog 76 #[.string s] W fun e w' => ∃ c, e = .returned (.slice (some ⟨W.heap.size, 0, none⟩) cs.length c) ∧ Rd .i32 w' (some ⟨W.heap.size, 0, none⟩) cs ∧ cs.length ≤ c ∧ c ≤ 9223372036854775807 ∧ Below W.heap.size W w') := Lib.hid fun W => hcs ▸ Runes_at s hs W
   go_upto_region 3 with (go_at_call 76; refine (HRU.out _).mono ?_; rintro e w1 ⟨cc, rfl, hrd1, hc1, hc2, hb1⟩)
   obtain ⟨cg, hcg⟩ : ∃ cg, W0.heap.size = cg := ⟨_, rfl⟩
   have hcgb : b < cg := by omega
   rw [hcg] at hrd1
   have hT1 : W0.heap.size ≤ w1.heap.size := hb1.size
   have m2 := cell_bl hb1 hs0 l2
   have h1 := h0.below hb1 (by omega)
   have o1 := o0.keep hb1
   have HVL := Lib.hid (VLevels_any (some ⟨cg, 0, none⟩) cs cs.length cc want w1 rfl hrd1 hcn hc1 hc2)
   have hb01 := HB0.out.trans (hb1.mono (by omega))
   have HB1 := Lib.hid hb01
   have HRD1 := Lib.hid hrd1
   clear l2 l4 h0 o0 hb1 hb01 hrd1 HB0 HRU
   go_upto_region 4 with (go_at_call 77; refine HVL.out.mono ?_; rintro e w2 ⟨va, vc, rfl, hvl, hvo, hb2⟩)
   rw [hV] at hvl hvo
   have h2 := h1.below hb2 (by omega)
   have o2 := o1.keep hb2
   have hb02 := HB1.out.trans (hb2.mono (by omega))
   have HRD2 := Lib.hid (HRD1.out.below (hb2))
   obtain ⟨la, lcap, hlv, hlcap, _⟩ := o2.slice
   subst hlv
   have d0 := h2.cells.1
   have d2 := h2.cells.2.2.1
   have d4 := h2.cells.2.2.2.2.1
   have f4 := h2.frz 4
   have HVO := Lib.hid hvo
   have HVL' := Lib.hid hvl
   have HB2 := Lib.hid hb02
   have H2 := Lib.hid h2
   have O2 := Lib.hid o2
   have hs2 := hb2.size
   clear m2 h1 o1 hb2 hvo hvl hb02 h2 o2 HRD1 HB1 HVL
   go_upto_region 5 with (fail)
   have h3 : LdB (w2.setCell ⟨b, 4, none⟩ (.int .u8 bs)) b (.slice la L.length lcap) sv fr tt bs wide := H2.out.set4 bs
   have o3 : OwnS pcE 75 (w2.setCell ⟨b, 4, none⟩ (.int .u8 bs)) (b + 1) (.slice la L.length lcap) L := O2.out.other (fun g hg => by
    have := World.ownsRow.lt O2.out g hg
    omega)
   have hb3 : Below b w (w2.setCell ⟨b, 4, none⟩ (.int .u8 bs)) := bl_set (HB2.out.mono (by omega)) _ _
   have hrd3 : Rd .i32 (w2.setCell ⟨b, 4, none⟩ (.int .u8 bs)) (some ⟨cg, 0, none⟩) cs := rd_set HRD2.out (by omega)
   have hvo3 : OutAt .u8 5 (w2.setCell ⟨b, 4, none⟩ (.int .u8 bs)) w1.heap.size va vc (ints V.1) := row_other HVO.out (fun g hg => by have := World.ownsRow.lt HVO.out g hg; omega)
   have hs3 : w2.heap.size ≤ (w2.setCell ⟨b, 4, none⟩ (.int .u8 bs)).heap.size := (KeepsWalks.setCell _ _ _).size
   clear d0 d2 d4 f4 HVO HRD2 HB2 H2 O2
   generalize w2.setCell ⟨b, 4, none⟩ (.int .u8 bs) = W3 at h3 o3 hb3 hrd3 hvo3 hs3 ⊢
   have d0 := h3.cells.1
   have d2 := h3.cells.2.2.1
   by_cases hL0 : L = []
   ·subst hL0
    have H3 := Lib.hid h3
    have O3 := Lib.hid o3
    have HB3 := Lib.hid hb3
    clear h3 o3 hb3 hrd3 hvo3 hc hlast
    go_wp2_with (fail)
    exact bodyPost_ret (results_none rfl _ _ _) rfl ⟨rfl, H3.out, O3.out, HB3.out⟩
   have hLpos : 0 < L.length := List.length_pos_iff.2 hL0
   obtain ⟨n, hn1⟩ : ∃ n, L.length = n + 1 := ⟨L.length - 1, by omega⟩
   obtain ⟨lp, hlp⟩ : ∃ lp, L[n]? = some lp := ⟨_, List.getElem?_eq_getElem (by omega)⟩
   have hlc := lastC_get hn1 hlp
   obtain ⟨F, hF⟩ : ∃ F, (runesI (s.extract 0 fr)).length = F := ⟨_, rfl⟩
   have HCT : Hid (∀ W : World, Calls Tryz.prog 75 #[.string (s.extract 0 fr)] W fun e w' => e = .returned (.int .i64 F) ∧ Below W.heap.size W w') := Lib.hid fun W => hF ▸ sCount_any (s.extract 0 fr) (by simp [ByteArray.size_extract]; omega) W
   rw [hF, hcs, hlc] at hlast
   obtain ⟨own, hown, hownl⟩ := rowI_some cs V.1 bs F lp.c1 hlast HVL'.out
   rw [Int.natCast_add] at hown
   have hownLv : ownLv s want fr (lastC L) = own := by
    unfold ownLv
    rw [hcs, hV, hbs0, hF, hlc, Int.toNat_natCast, Int.natCast_add, hown]
    rfl
   have HOWN := Lib.hid hownLv
   have HLC := Lib.hid hlc
   have hLS : LvS w b (.slice la L.length lcap) sv fr tt bs wide L cg cs w1.heap.size va vc (ints V.1) W3 := ⟨h3, o3, hrd3, hvo3, hb3⟩
   have HLS := Lib.hid hLS
   have hfs : (fr : Int) ≤ (s.size : Int) := by omega
   have hci : ∀ (i : Nat) (p : Pc), L[i]? = some p → p.c0 < lp.c1 := fun i p hp => by have := hc i p hp; rw [hlc] at this; exact this
   have HCI := Lib.hid hci
   have HRN := Lib.hid hown
   have hFb : (F : Int) ≤ 2097152 := by omega
   have hFl : (lp.c1 : Int) ≤ 2097152 := by omega
   have hVLl := HVL'.out
   have HVLl := Lib.hid hVLl
   have hvcap := own_slice2 hvo3
   rw [ints_len, hVLl] at hvcap
   have hvadr := out_addr hvo3
   have HVA := Lib.hid hvadr
   have HVC := Lib.hid hvcap
   clear h3 o3 hrd3 hvo3 hb3 hLS hownLv hlc hc hci hown hVLl HVL' hL0 hF hvcap hvadr hbs0 hV hcs
   have cL : ((((n + 1 : Nat)) : Int) == 0) = false := by rw [beq_eq_false_iff_ne]; omega
   have cL2 : ((n : Int) + 1 == 0) = false := by rw [beq_eq_false_iff_ne]; omega
   rw [hn1] at d0
   go_upto_region 7 with (go_at_call 75; refine (HCT.out _).mono ?_; rintro e w4 ⟨rfl, hb4⟩)
   have hLS4 := HLS.out.below hb4
   clear d0 d2 hb4 HLS HCT
   obtain ⟨G, hG, hGb, hGl, hcell, hfz⟩ := hLS4.own.at n lp hlp
   subst hG
   have HKC : Hid (∀ W, LvS w b (.slice (some ⟨G, 0, none⟩) L.length lcap) sv fr tt bs wide L cg cs w1.heap.size va vc (ints V.1) W → W.cell? ⟨b, 0, none⟩ = some (.slice (some ⟨G, 0, none⟩) (n + 1) lcap) ∧ W.cell? ⟨G, n * 10 + 3, none⟩ = some (.int .i64 lp.c1) ∧ LvS w b (.slice (some ⟨G, 0, none⟩) L.length lcap) sv fr tt bs wide L cg cs w1.heap.size va vc (ints V.1) W) :=
    Lib.hid fun W h => ⟨hn1 ▸ h.ld.cells.1, (by
     obtain ⟨G', e, _, _, hc', _⟩ := h.own.at n lp hlp
     cases e
     exact hc' 3 _ rfl), h⟩
   have HROW : Hid (∀ W, LvS w b (.slice (some ⟨G, 0, none⟩) L.length lcap) sv fr tt bs wide L cg cs w1.heap.size va vc (ints V.1) W →
    Calls Tryz.prog 78 #[.slice (some ⟨cg, 0, none⟩) cs.length cc, .slice va cs.length vc, .int .u8 bs, .int .i64 F, .int .i64 ((F : Int) + lp.c1)] W fun e w' => ∃ oa oc, e = .returned (.slice oa own.length oc) ∧ OutAt .u8 5 w' (b + 1) oa oc (ints own) ∧
     LvS w b (.slice (some ⟨G, 0, none⟩) L.length lcap) sv fr tt bs wide L cg cs w1.heap.size va vc (ints V.1) w') :=
    Lib.hid fun W h => (Row_any (some ⟨cg, 0, none⟩) va cs V.1 cs.length cs.length cc vc bs F ((F : Int) + lp.c1) W rfl HVLl.out h.rd h.vo.rd hcn hcn HVC.out.1 (by have := HVC.out.2; unfold maxLen at this; omega) HVA.out).mono fun e w' hp => by
     rw [HRN.out] at hp
     obtain ⟨hb, a, c, he, ho⟩ := hp
     exact ⟨a, c, he, own_mono ho (by have := h.ld.lt; omega), h.below hb⟩
   obtain ⟨k0, k3, hL4⟩ := HKC.out _ hLS4
   have hn2 : (n : Int) ≤ 2097152 := by omega
   have i1 : IntKind.i64.wrap ((n : Int) + 1 - 1) = (n : Int) := by rw [IntKind.wrap_i64]; omega
   have i2 : IntKind.i64.wrap (((n + 1 : Nat) : Int) - 1) = (n : Int) := by rw [IntKind.wrap_i64]; omega
   have i3 : IntKind.i64.wrap ((F : Int) + (lp.c1 : Int)) = (F : Int) + (lp.c1 : Int) := by rw [IntKind.wrap_i64]; omega
   have i0 : IntKind.i64.wrap (n : Int) = (n : Int) := by rw [IntKind.wrap_i64]; omega
   have i4 : (0 : Int) ≤ (n : Int) := by omega
   have i5 : (n : Int) < (n : Int) + 1 := by omega
   have i6 : (n : Int) < ((n + 1 : Nat) : Int) := by omega
   clear hLS4 hcell hfz HVLl HVA HVC HRN
   go_region_held3 (fun w' => w'.cell? ⟨b, 0, none⟩ = some (.slice (some ⟨G, 0, none⟩) (n + 1) lcap) ∧ w'.cell? ⟨G, n * 10 + 3, none⟩ = some (.int .i64 lp.c1) ∧ LvS w b (.slice (some ⟨G, 0, none⟩) L.length lcap) sv fr tt bs wide L cg cs w1.heap.size va vc (ints V.1) w')
    ((refine HKC.out _ ?_; repeat (first | assumption | refine LvS.drew ?_)))
    ((go_at_call 78; refine (HROW.out _ (by repeat (first | assumption | refine LvS.drew ?_))).mono ?_; rintro e w5 ⟨oa, oc, rfl, ho5, hL5⟩))
   have HL5 := Lib.hid hL5
   have HO5 := Lib.hid ho5
   clear hL5 ho5 k0 k3 hL4 HROW i0 i1 i2 i3 i4 i5 i6
   have hl5 := HL5.out.ld
   have o5 := HL5.out.own
   have b5 := HL5.out.bel
   have d0 := hl5.cells.1
   rw [hn1] at d0
   have H5a := Lib.hid hl5
   have H5b := Lib.hid o5
   have H5c := Lib.hid b5
   clear hl5 o5 b5 HL5 HKC
   go_upto_block 0 with (fail)
   go_wp2_with (fail)
   clear d0
   go_loopw [67] (fun u67 wx => ∃ i : Nat, i ≤ n + 1 ∧ u67 = .int .i64 i ∧ LdB wx b (.slice (some ⟨G, 0, none⟩) L.length lcap) sv fr tt bs wide ∧ OwnS pcE 75 wx (b + 1) (.slice (some ⟨G, 0, none⟩) L.length lcap) (lvP own L i) ∧ OutAt .u8 5 wx (b + 1) oa oc (ints own) ∧ Below b w wx) (fun u67 _ => n + 1 - (intOf u67).toNat)
   case atStart => exact ⟨0, by omega, rfl, H5a.out, by rw [lvP_zero]; exact H5b.out, HO5.out, H5c.out⟩
   case round =>
    obtain ⟨i, hi, rfl, hld, hrow, hout, hbel⟩ := hrel
    have HLD := Lib.hid hld
    have HROWi := Lib.hid hrow
    have HOUT := Lib.hid hout
    have HBEL := Lib.hid hbel
    clear hld hrow hout hbel H5a H5b H5c HO5
    by_cases hlt : i < n + 1
    ·obtain ⟨p, hp⟩ : ∃ p, L[i]? = some p := ⟨_, List.getElem?_eq_getElem (by omega)⟩
     have hpl := lvP_get own L i p hp
     have hll := lvP_len own L i (by omega)
     have hnx := lvP_next own L i p hp
     obtain ⟨M, hM⟩ : ∃ M, lvP own L i = M := ⟨_, rfl⟩
     rw [hM] at hpl hll hnx
     have hrow2 : OwnS pcE 75 wr (b + 1) (.slice (some ⟨G, 0, none⟩) M.length lcap) M := by rw [hll, ← hM]; exact HROWi.out
     have hld2 : LdB wr b (.slice (some ⟨G, 0, none⟩) M.length lcap) sv fr tt bs wide := by rw [hll]; exact HLD.out
     obtain ⟨G', eG, hGb', hGl', hcell, hfz⟩ := hrow2.at i p hpl
     cases eG
     have hc0 := HCI.out i p hp
     obtain ⟨og, hog, hob, hol, hoc, hof, hocap, _⟩ := HOUT.out.at p.c0 (by rw [ints_len, hownl]; exact hc0)
     subst hog
     rw [ith_ints] at hoc
     obtain ⟨x, hx⟩ : ∃ x, own.getD p.c0 0 = x := ⟨_, rfl⟩
     rw [hx] at hoc
     have y0 : wr.cell? ⟨G, i * 10, none⟩ = some (.int .i64 p.a) := hcell 0 _ rfl
     have y1 : wr.cell? ⟨G, i * 10 + 1, none⟩ = some (.int .i64 p.size) := hcell 1 _ rfl
     have y2 : wr.cell? ⟨G, i * 10 + 2, none⟩ = some (.int .i64 p.c0) := hcell 2 _ rfl
     have y3 : wr.cell? ⟨G, i * 10 + 3, none⟩ = some (.int .i64 p.c1) := hcell 3 _ rfl
     have y4 : wr.cell? ⟨G, i * 10 + 4, none⟩ = some (.int .u8 p.level) := hcell 4 _ rfl
     have y5 : wr.cell? ⟨G, i * 10 + 5, none⟩ = some (.string p.became) := hcell 5 _ rfl
     have y6 : wr.cell? ⟨G, i * 10 + 6, none⟩ = some (.string p.shown) := hcell 6 _ rfl
     have y7 : wr.cell? ⟨G, i * 10 + 7, none⟩ = some (.int .i64 p.wide) := hcell 7 _ rfl
     have y8 : wr.cell? ⟨G, i * 10 + 8, none⟩ = some (.int .i64 p.e0) := hcell 8 _ rfl
     have y9 : wr.cell? ⟨G, i * 10 + 9, none⟩ = some (.int .i64 p.e1) := hcell 9 _ rfl
     have hsel : M.set i { p with level := p.level } = M := by
      apply List.ext_getElem?
      intro j
      rw [List.getElem?_set]
      split
      ·rename_i e; subst e
       split
       ·exact hpl.symm
       ·rename_i h; exact absurd (List.getElem?_eq_some_iff.1 hpl).1 h
      ·rfl
     have HNX := Lib.hid hnx
     have HLL := Lib.hid hll
     have HX := Lib.hid hx
     have HP := Lib.hid hp
     have HSEL := Lib.hid hsel
     have HLD2 := Lib.hid hld2
     have HROW2 := Lib.hid hrow2
     have hil : i < M.length := (List.getElem?_eq_some_iff.1 hpl).1
     have hc0i : (p.c0 : Int) < (own.length : Int) := by omega
     clear hpl hll hnx hM hrow2 hld2 hcell hfz hp hx hsel hoc hof
     go_upto_region 11 with (fail)
     have hb6 : Below wr.heap.size wr (wr.alloc (.cells #[.int .i64 p.a, .int .i64 p.size, .int .i64 p.c0, .int .i64 p.c1, .int .u8 p.level, .string p.became, .string p.shown, .int .i64 p.wide, .int .i64 p.e0, .int .i64 p.e1] 75)) := (Below.refl _ _).alloc (Nat.le_refl _) _
     have hx6 := World.alloc_heap_new wr (.cells #[.int .i64 p.a, .int .i64 p.size, .int .i64 p.c0, .int .i64 p.c1, .int .u8 p.level, .string p.became, .string p.shown, .int .i64 p.wide, .int .i64 p.e0, .int .i64 p.e1] 75)
     generalize wr.alloc (.cells #[.int .i64 p.a, .int .i64 p.size, .int .i64 p.c0, .int .i64 p.c1, .int .u8 p.level, .string p.became, .string p.shown, .int .i64 p.wide, .int .i64 p.e0, .int .i64 p.e1] 75) = W6 at hb6 hx6 ⊢
     obtain ⟨P, hP⟩ : ∃ P, wr.heap.size = P := ⟨_, rfl⟩
     have hGP : G ≠ P := by omega
     have hLW : LwS w b G lcap sv fr tt bs wide M i p P (some ⟨og, 0, none⟩) oc (ints own) W6 :=
      ⟨HLD2.out.below hb6 HLD2.out.lt, ⟨p.level, by rw [HSEL.out]; exact HROW2.out.keep hb6⟩, hP ▸ hx6, HOUT.out.keep hb6, HBEL.out.trans (hb6.mono (Nat.le_of_lt HLD2.out.lt))⟩
     obtain ⟨v4, hv4⟩ : ∃ v4 : World → Value, ∀ W, LwS w b G lcap sv fr tt bs wide M i p P (some ⟨og, 0, none⟩) oc (ints own) W → W.cell? ⟨G, i * 10 + 4, none⟩ = some (v4 W) ∧ W.frozen? ⟨G, i * 10 + 4, none⟩ = false := ⟨fun W => (W.cell? ⟨G, i * 10 + 4, none⟩).getD undef, fun W h => by
      obtain ⟨y, hr⟩ := h.row
      have hml : (M.set i { p with level := y }).length = M.length := List.length_set
      have hge : (M.set i { p with level := y })[i]? = some { p with level := y } := by rw [List.getElem?_set]; simp [hil]
      obtain ⟨g, e, _, _, hcc, hff⟩ := (show OwnS pcE 75 W (b + 1) (.slice (some ⟨G, 0, none⟩) (M.set i { p with level := y }).length lcap) _ by rw [hml]; exact hr).at i _ hge
      cases e
      have h4 := hcc 4 _ rfl
      refine ⟨?_, hff _⟩
      rw [show i * pcE.k + 4 = i * 10 + 4 from rfl] at h4
      simp [h4]⟩
     have HKW : Hid (∀ W, LwS w b G lcap sv fr tt bs wide M i p P (some ⟨og, 0, none⟩) oc (ints own) W → W.cell? ⟨b, 0, none⟩ = some (.slice (some ⟨G, 0, none⟩) (n + 1) lcap) ∧ W.cell? ⟨P, 2, none⟩ = some (.int .i64 p.c0) ∧ W.cell? ⟨og, p.c0, none⟩ = some (.int .u8 x) ∧ W.cell? ⟨G, i * 10 + 4, none⟩ = some (v4 W) ∧ W.frozen? ⟨G, i * 10 + 4, none⟩ = false ∧
      LwS w b G lcap sv fr tt bs wide M i p P (some ⟨og, 0, none⟩) oc (ints own) W) :=
      Lib.hid fun W h => ⟨by have := h.ld.cells.1; rw [HLL.out, hn1] at this; exact this, (by have := h.box; simp [World.cell?, this]), (by
       obtain ⟨og', e, _, _, hc', _⟩ := h.out.at p.c0 (by rw [ints_len, hownl]; exact hc0)
       cases e
       rw [ith_ints, HX.out] at hc'
       exact hc'), (hv4 W h).1, (hv4 W h).2, h⟩
     have HSW : Hid (∀ W, LwS w b G lcap sv fr tt bs wide M i p P (some ⟨og, 0, none⟩) oc (ints own) W → LwS w b G lcap sv fr tt bs wide M i p P (some ⟨og, 0, none⟩) oc (ints own) (W.setCell ⟨G, i * 10 + 4, none⟩ (.int .u8 x))) := Lib.hid fun W h => h.set hil hGP x
     obtain ⟨k0, k2, kx, k4, kf, hW6⟩ := HKW.out _ hLW
     have HLW := Lib.hid hLW
     rw [hP]
     have i3 : (i : Int) < (n : Int) + 1 := by omega
     have i4 : (0 : Int) ≤ (i : Int) := by omega
     have i5 : (0 : Int) ≤ (p.c0 : Int) := by omega
     clear y0 y1 y2 y3 y4 y5 y6 y7 y8 y9 hv4 hb6 hx6 hLW HLD2 HROW2 HSEL
     go_region_held3 (fun w' => w'.cell? ⟨b, 0, none⟩ = some (.slice (some ⟨G, 0, none⟩) (n + 1) lcap) ∧ w'.cell? ⟨P, 2, none⟩ = some (.int .i64 p.c0) ∧ w'.cell? ⟨og, p.c0, none⟩ = some (.int .u8 x) ∧ w'.cell? ⟨G, i * 10 + 4, none⟩ = some (v4 w') ∧ w'.frozen? ⟨G, i * 10 + 4, none⟩ = false ∧
      LwS w b G lcap sv fr tt bs wide M i p P (some ⟨og, 0, none⟩) oc (ints own) w')
      ((refine HKW.out _ ?_; repeat (first | assumption | refine LwS.drew ?_ | refine HSW.out _ ?_)))
      (fail)
     have hW7 := HSW.out _ HLW.out
     have hR7 := HLW.out.rowx hil x
     rw [show ({ p with level := x } : Pc) = levelP own p by unfold levelP; rw [HX.out], HNX.out, HLL.out] at hR7
     have hL7 := hW7.ld
     rw [HLL.out] at hL7
     have ZL := Lib.hid hL7
     have ZR := Lib.hid hR7
     have ZO := Lib.hid hW7.out
     have ZB := Lib.hid hW7.bel.drew
     clear hW7 hR7 hL7 k0 k2 kx k4 kf hW6 HLW HSW HKW
     go_wp2_with (fail)
     go_roundw
     case rel => exact ⟨i + 1, by omega, by go_num, ZL.out, ZR.out, ZO.out, ZB.out⟩
     case measure => simp [intOf]; omega
    ·obtain rfl : i = n + 1 := by omega
     have e1 : lvP own L (n + 1) = L.map (levelP own) := by rw [← hn1]; exact lvP_all own L
     have hfin : OwnS pcE 75 wr (b + 1) (.slice (some ⟨G, 0, none⟩) L.length lcap) (L.map (levelP (ownLv s want fr (lastC L)))) := by rw [HOWN.out, ← e1]; exact HROWi.out
     have HFIN := Lib.hid hfin
     clear hfin e1 hlt
     go_wp2_with (fail)
     go_end0
     exact ⟨rfl, HLD.out, HFIN.out, HBEL.out⟩
end
end Go.Proofs.YtlbclfmbejjneaaGreatDoor
