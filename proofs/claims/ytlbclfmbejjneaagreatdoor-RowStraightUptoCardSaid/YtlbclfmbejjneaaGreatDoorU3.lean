/- Contracts of row.lay, (*row.laid).edge, the closure that adds stops. -/
import Derived.Test.YtlbclfmbejjneaaGreatDoorU2
import Derived.Test.YtlbclfmbejjneaaGreatDoorText
import Derived.Test.YtlbclfmbejjneaaGreatDoorU1
namespace Go.Proofs.YtlbclfmbejjneaaGreatDoor
section
set_option linter.unusedVariables false
set_option linter.unusedSimpArgs false
open Go.RowKit Go.Proofs Go.Shelf
attribute [local go_sem] Oper.semAt_some

/-- a laid row stands at a block -/
def LaidW (W : World) (b : Nat) (R : LaidR) : Prop :=
  ∃ (la : Option Addr) (lcap : Nat) (va : Option Addr) (vc : Nat), LdB W b (.slice la R.l.length lcap) (.slice va R.seen.length vc) R.fr R.tt R.base R.wide ∧
    OwnS pcE 75 W (b + 1) (.slice la R.l.length lcap) R.l ∧ Rd .i64 W va R.seen
theorem LaidW.below {W W' : World} {b : Nat} {R : LaidR} (h : LaidW W b R) (hb : Below W.heap.size W W') : LaidW W' b R := by
  obtain ⟨la, lcap, va, vc, h1, h2, h3⟩ := h
  exact ⟨la, lcap, va, vc, h1.below hb h1.lt, h2.keep hb, h3.below hb⟩
theorem own_low {α : Type} {E : Enc α} {e : Nat} {W W' : World} {base m : Nat} {v : Value} {l : List α} (h : OwnS E e W base v l) (hv : ∀ g, v.ownBlock = some g → g < m) (hb : Below m W W') : OwnS E e W' base v l := by
  refine ⟨h.1, ?_⟩
  rcases h.2 with h1 | ⟨g, cap, cur, h1, h2, h3, h4⟩
  · exact .inl h1
  · exact .inr ⟨g, cap, cur, h1, h2, (hb.block g (hv g (by rw [h1]; rfl))).trans h3, h4⟩
/-- what stands while clusters are shown: the row, and the list of levels -/
structure LoS (w : World) (b : Nat) (lv sv : Value) (fr tt bs : Nat) (wide : Int) (M : List Pc) (ob : Nat) (oa : Option Addr) (oc : Nat) (os : List Int) (W : World) : Prop where
  ch : ChS w b lv sv fr tt bs wide M W
  out : OutAt .u8 5 W ob oa oc os
  sz : ob ≤ W.heap.size
section
variable {w W W' : World} {b : Nat} {lv sv : Value} {fr tt bs : Nat} {wide : Int} {M : List Pc} {ob : Nat} {oa : Option Addr} {oc : Nat} {os : List Int}
theorem LoS.drew (h : LoS w b lv sv fr tt bs wide M ob oa oc os W) : LoS w b lv sv fr tt bs wide M ob oa oc os W.drew := ⟨h.ch.drew, h.out, h.sz⟩
theorem LoS.drewN (h : LoS w b lv sv fr tt bs wide M ob oa oc os W) (n : Nat) : LoS w b lv sv fr tt bs wide M ob oa oc os (W.drewN n) := ⟨⟨h.ch.ld, h.ch.own, bl_drewN h.ch.bel n⟩, h.out, h.sz⟩
theorem LoS.below (h : LoS w b lv sv fr tt bs wide M ob oa oc os W) (hb : Below W.heap.size W W') : LoS w b lv sv fr tt bs wide M ob oa oc os W' := ⟨h.ch.below hb, h.out.keep hb, Nat.le_trans h.sz hb.size⟩
end
theorem LoS.set {w W : World} {b G cap : Nat} {sv : Value} {fr tt bs : Nat} {wide : Int} {M : List Pc} {ob : Nat} {oa : Option Addr} {oc : Nat} {os : List Int} {n : Nat} (h : LoS w b (.slice (some ⟨G, 0, none⟩) n cap) sv fr tt bs wide M ob oa oc os W) (hn : M.length = n) (hG : G < ob) (i : Nat) (p : Pc) (hp : M[i]? = some p) (x : ByteArray) (y : Int) :
    LoS w b (.slice (some ⟨G, 0, none⟩) n cap) sv fr tt bs wide (M.set i { p with shown := x, wide := y }) ob oa oc os ((W.setCell ⟨G, i * 10 + 6, none⟩ (.string x)).setCell ⟨G, i * 10 + 7, none⟩ (.int .i64 y)) := by
  subst hn
  have hil := (List.getElem?_eq_some_iff.1 hp).1
  have hGb := World.ownsRow.lt h.ch.own G rfl
  have h1 := OwnS.set (cap := cap) h.ch.own i p { p with shown := x } hp 6 (.string x) (by decide) rfl
  have h2 := OwnS.set (cap := cap) h1 i { p with shown := x } { p with shown := x, wide := y } (by rw [List.getElem?_set]; simp [hil]) 7 (.int .i64 y) (by decide) rfl
  rw [List.set_set, List.length_set] at h2
  refine ⟨⟨box_other (box_other h.ch.ld (by omega)) (by omega), h2, ?_⟩, ?_, by have := h.sz; simp; omega⟩
  · exact (h.ch.bel.setCell (p := ⟨G, i * 10 + 6, none⟩) (show b ≤ G by omega) _).setCell (p := ⟨G, i * 10 + 7, none⟩) (show b ≤ G by omega) _
  · exact row_other (row_other h.out (fun g hg => by have := (World.ownsRow.lt h.out g hg).1; omega)) (fun g hg => by have := (World.ownsRow.lt h.out g hg).1; omega)
theorem LoS.setx {w W : World} {b : Nat} {lv sv : Value} {fr tt bs : Nat} {wide : Int} {M : List Pc} {ob : Nat} {oa : Option Addr} {oc : Nat} {os : List Int} (h : LoS w b lv sv fr tt bs wide M ob oa oc os W) (hb : b < ob) (y : Int) :
    LoS w b lv sv fr tt bs y M ob oa oc os (W.setCell ⟨b, 5, none⟩ (.int .i64 y)) :=
  ⟨⟨h.ch.ld.set5 y, h.ch.own.other (fun g hg => by have := (World.ownsRow.lt h.ch.own g hg).1; omega), bl_set h.ch.bel _ _⟩, row_other h.out (fun g hg => by have := (World.ownsRow.lt h.out g hg).1; omega), by have := h.sz; simp; omega⟩
theorem ChS.setE {w W : World} {b G cap : Nat} {sv : Value} {fr tt bs : Nat} {wide : Int} {M : List Pc} {n : Nat} (h : ChS w b (.slice (some ⟨G, 0, none⟩) n cap) sv fr tt bs wide M W) (hn : M.length = n) (i : Nat) (p : Pc) (hp : M[i]? = some p) (x y : Int) :
    ChS w b (.slice (some ⟨G, 0, none⟩) n cap) sv fr tt bs wide (M.set i { p with e0 := x, e1 := y }) ((W.setCell ⟨G, i * 10 + 8, none⟩ (.int .i64 x)).setCell ⟨G, i * 10 + 8 + 1, none⟩ (.int .i64 y)) := by
  subst hn
  have hil := (List.getElem?_eq_some_iff.1 hp).1
  have hGb := World.ownsRow.lt h.own G rfl
  have h1 := OwnS.set (cap := cap) h.own i p { p with e0 := x } hp 8 (.int .i64 x) (by decide) rfl
  have h2 := OwnS.set (cap := cap) h1 i { p with e0 := x } { p with e0 := x, e1 := y } (by rw [List.getElem?_set]; simp [hil]) 9 (.int .i64 y) (by decide) rfl
  rw [List.set_set, List.length_set] at h2
  refine ⟨box_other (box_other h.ld (by omega)) (by omega), h2, ?_⟩
  exact (h.bel.setCell (p := ⟨G, i * 10 + 8, none⟩) (show b ≤ G by omega) _).setCell (p := ⟨G, i * 10 + 8 + 1, none⟩) (show b ≤ G by omega) _
theorem three_alloc (w : World) (o1 o2 o3 : Obj) : (((w.alloc o1).alloc o2).alloc o3).heap[w.heap.size]? = some o1 ∧ (((w.alloc o1).alloc o2).alloc o3).heap[w.heap.size + 1]? = some o2 ∧ (((w.alloc o1).alloc o2).alloc o3).heap[w.heap.size + 2]? = some o3 ∧
    Below w.heap.size w (((w.alloc o1).alloc o2).alloc o3) ∧ (((w.alloc o1).alloc o2).alloc o3).heap.size = w.heap.size + 3 := by
  obtain ⟨h1, h2, h3⟩ := two_alloc w o1 o2
  have hb := (Below.refl ((w.alloc o1).alloc o2).heap.size ((w.alloc o1).alloc o2)).alloc (Nat.le_refl _) o3
  have hs : ((w.alloc o1).alloc o2).heap.size = w.heap.size + 2 := by rw [World.size_alloc, World.size_alloc]
  refine ⟨(hb.block _ (by omega)).trans h1, (hb.block _ (by omega)).trans h2, ?_, h3.trans (hb.mono (by omega)), by rw [World.size_alloc, hs]⟩
  have h4 := World.alloc_heap_new ((w.alloc o1).alloc o2) o3
  rw [hs] at h4
  exact h4
set_option maxRecDepth 100000 in
set_option maxHeartbeats 4000000 in
theorem rLay_any (s : ByteArray) (hs : s.size ≤ 2097152) (ra rl lev rwd fin tab want : Int) (wideA join raw : Bool) (w : World) (hT : T8 w) (hD : DB w) (hlv : ∀ p ∈ lay2 s want join raw ra rl, p.level < 256) :
    Calls Tryz.prog 33 #[.string s, rowA5 ra rl lev rwd fin, lookV tab want wideA join raw] w fun e w' => ∃ b, e = .returned (.pointer (some ⟨b, 0, none⟩)) ∧
      LaidW w' b (layI s tab want wideA join raw ra rl rwd) ∧ w.heap.size ≤ b ∧ Below w.heap.size w w' := by
  obtain ⟨hft, htt, hfl, hfc, hlast⟩ := found_facts s ra rl
  have hl2 := lay2_get s hs want join raw ra rl
  obtain ⟨N, hN⟩ : ∃ N, layI s tab want wideA join raw ra rl rwd = N := ⟨_, rfl⟩
  have hg3 : Tryz.lays197_ren.g 3 < w.heap.size := cell_lt (hT.1 0 (by omega))
  have hg4 : Tryz.lays197_ren.g 4 < w.heap.size := cell_lt (hT.2 0 (by omega)).1
  rw [hN]
  obtain ⟨F0, hF0⟩ : ∃ F0, foundI s (rowFr s ra) (rowTo s ra rl) = F0 := ⟨_, rfl⟩
  obtain ⟨fr, hfr⟩ : ∃ fr, rowFr s ra = fr := ⟨_, rfl⟩
  obtain ⟨tt, htt2⟩ : ∃ tt, rowTo s ra rl = tt := ⟨_, rfl⟩
  have HFI := fun b sv base wide W => rFind_any s hs ra rl lev rwd fin b sv base wide W
  rw [hF0, hfr, htt2] at HFI hfc
  rw [hF0, hfr] at hlast
  rw [hF0] at hfl
  rw [hfr, htt2] at hft
  rw [htt2] at htt
  go_enter Tryz.func33, Tryz.ntmps33
  unfold rowA5
  go_upto_region 2 with (fail)
  obtain ⟨h0, h1, h2, hb1, hs1⟩ := three_alloc w (.cells #[.int .i64 ra, .int .i64 rl, .int .u8 lev, .int .i64 rwd, .int .i8 fin] 24) (.cells #[.int .i64 tab, .bool wideA, .int .i8 want, .bool join, .bool raw] 26) (.cells #[.slice none 0 0, .slice none 0 0, .int .i64 0, .int .i64 0, .int .u8 0, .int .i64 0] 73)
  generalize ((w.alloc (.cells #[.int .i64 ra, .int .i64 rl, .int .u8 lev, .int .i64 rwd, .int .i8 fin] 24)).alloc (.cells #[.int .i64 tab, .bool wideA, .int .i8 want, .bool join, .bool raw] 26)).alloc (.cells #[.slice none 0 0, .slice none 0 0, .int .i64 0, .int .i64 0, .int .u8 0, .int .i64 0] 73) = W1 at h0 h1 h2 hb1 hs1 ⊢
  obtain ⟨B, hB⟩ : ∃ B, w.heap.size = B := ⟨_, rfl⟩
  rw [hB] at h0 h1 h2 hs1 hg3 hg4 ⊢
  rw [show B + 1 + 1 = B + 2 from rfl]
  have hT1 := hT.below rfl hb1
  have hD1 : DB W1 := hD.below hb1
  have hL1 : LdB W1 (B + 2) (.slice none 0 0) (.slice none 0 0) 0 0 0 0 := h2
  have hdl : 5 < B := by have := cell_lt hD; omega
  -- what stays while block B + 2 and what is above it are written
  have HX : Hid (∀ W, Below (B + 2) W1 W → T8 W ∧ DB W ∧ W.heap[B]? = some (.cells #[.int .i64 ra, .int .i64 rl, .int .u8 lev, .int .i64 rwd, .int .i8 fin] 24 (0, 0)) ∧ W.heap[B + 1]? = some (.cells #[.int .i64 tab, .bool wideA, .int .i8 want, .bool join, .bool raw] 26 (0, 0))) :=
    Lib.hid fun W hb => ⟨T8.keep hT1 (by omega) (by omega) hb, cell_bl hb (by show 5 < B + 2; omega) hD1, (hb.block _ (by omega)).trans h0, (hb.block _ (by omega)).trans h1⟩
  have HFI' := Lib.hid (HFI (B + 2) (.slice none 0 0) 0 0 W1 hT1 (by omega) (by omega) hL1)
  have b0 : W1.cell? ⟨B, 0, none⟩ = some (.int .i64 ra) := by simp [World.cell?, h0]
  have b1 : W1.cell? ⟨B, 1, none⟩ = some (.int .i64 rl) := by simp [World.cell?, h0]
  have b2 : W1.cell? ⟨B, 2, none⟩ = some (.int .u8 lev) := by simp [World.cell?, h0]
  have b3 : W1.cell? ⟨B, 3, none⟩ = some (.int .i64 rwd) := by simp [World.cell?, h0]
  have b4 : W1.cell? ⟨B, 4, none⟩ = some (.int .i8 fin) := by simp [World.cell?, h0]
  clear h0 h1 h2 hT hD hT1 hD1 HFI hL1
  have HB1 := Lib.hid hb1
  have HL2 := Lib.hid hl2
  have HFC := Lib.hid hfc
  have HLV := Lib.hid hlv
  clear hb1 hl2 hfc hlv
  unfold rowA5 at HFI'
  go_upto_region 3 with (go_at_call 48; refine HFI'.out.mono ?_; rintro e w2 ⟨rfl, lv, hL2, hO2, hb2⟩)
  clear b0 b1 b2 b3 b4 HFI'
  rw [hs1, show B + 3 = B + 2 + 1 from rfl] at hO2
  obtain ⟨hT2, hD2, hr2, hk2⟩ := HX.out w2 hb2
  obtain ⟨L1, hL1d⟩ : ∃ L1, levelsI s want raw fr F0 = L1 := ⟨_, rfl⟩
  have HLE := Lib.hid (rLev_any s hs tab want wideA join raw (B + 2) lv (.slice none 0 0) fr tt 0 F0 w2 hL2 hO2 (by omega) (by omega) (fun i p hp => (HFC.out i p hp).2.2.2.2) hlast)
  rw [hL1d] at HLE
  have hl1 : ∀ (i : Nat) (p : Pc), L1[i]? = some p → p.c0 < p.c1 ∧ p.c1 ≤ (runesI (s.extract fr tt)).length ∧ p.a + p.size ≤ s.size ∧ p.level < 256 := by
    intro i p hp
    have hmap : L1.map (fun p => (p.a, p.size, p.c0, p.c1)) = F0.map (fun p => (p.a, p.size, p.c0, p.c1)) := by rw [← hL1d]; exact levels_map _ (fun _ _ => rfl) s want raw fr F0
    obtain ⟨q, hq, e⟩ := mem_map_eq hmap (List.mem_of_getElem? hp)
    obtain ⟨j, hj⟩ := List.mem_iff_getElem?.1 hq
    obtain ⟨g1, g2, g3, _, _⟩ := HFC.out j q hj
    simp only [Prod.mk.injEq] at e
    refine ⟨by omega, by omega, by omega, ?_⟩
    have hm : changeP s (madeI s join fr tt) p ∈ lay2 s want join raw ra rl := by
      unfold lay2
      rw [hF0, hfr, htt2, hL1d]
      exact List.mem_map_of_mem (List.mem_of_getElem? hp)
    have h256 := HLV.out _ hm
    exact h256
  have hn1 : L1.length ≤ 2097152 := by
    have := congrArg List.length (levels_map (fun p => p.a) (fun _ _ => rfl) s want raw fr F0)
    rw [hL1d, List.length_map, List.length_map] at this
    omega
  obtain ⟨bs, hbs⟩ : ∃ bs, baseR s want raw = bs := ⟨_, rfl⟩
  rw [hbs] at HLE
  have HL1 := Lib.hid hl1
  have b0 : w2.cell? ⟨B + 1, 0, none⟩ = some (.int .i64 tab) := by simp [World.cell?, hk2]
  have b1 : w2.cell? ⟨B + 1, 1, none⟩ = some (.bool wideA) := by simp [World.cell?, hk2]
  have b2 : w2.cell? ⟨B + 1, 2, none⟩ = some (.int .i8 want) := by simp [World.cell?, hk2]
  have b3 : w2.cell? ⟨B + 1, 3, none⟩ = some (.bool join) := by simp [World.cell?, hk2]
  have b4 : w2.cell? ⟨B + 1, 4, none⟩ = some (.bool raw) := by simp [World.cell?, hk2]
  have HB2 := Lib.hid hb2
  clear hL2 hO2 hb2 hT2 hD2 hr2 hk2 hl1
  go_upto_region 4 with (go_at_call 49; refine HLE.out.mono ?_; rintro e w3 ⟨rfl, hL3, hO3, hb3⟩)
  clear b0 b1 b2 b3 b4 HLE
  have hb3' := HB2.out.trans hb3
  obtain ⟨hT3, hD3, hr3, hk3⟩ := HX.out w3 hb3'
  have HCG := Lib.hid (rChg_any s hs tab want wideA join raw (B + 2) lv (.slice none 0 0) fr tt bs 0 L1 w3 hL3 hO3 hT3 (by omega) (by omega) hft htt hn1 HL1.out)
  obtain ⟨L2, hL2d⟩ : ∃ L2, L1.map (changeP s (madeI s join fr tt)) = L2 := ⟨_, rfl⟩
  rw [hL2d] at HCG
  have b0 : w3.cell? ⟨B + 1, 0, none⟩ = some (.int .i64 tab) := by simp [World.cell?, hk3]
  have b1 : w3.cell? ⟨B + 1, 1, none⟩ = some (.bool wideA) := by simp [World.cell?, hk3]
  have b2 : w3.cell? ⟨B + 1, 2, none⟩ = some (.int .i8 want) := by simp [World.cell?, hk3]
  have b3 : w3.cell? ⟨B + 1, 3, none⟩ = some (.bool join) := by simp [World.cell?, hk3]
  have b4 : w3.cell? ⟨B + 1, 4, none⟩ = some (.bool raw) := by simp [World.cell?, hk3]
  have HB3 := Lib.hid hb3'
  clear hL3 hO3 hb3 hb3' hT3 hD3 hr3 hk3 HB2
  go_upto_region 5 with (go_at_call 50; refine HCG.out.mono ?_; rintro e w4 ⟨rfl, hL4, hO4, hb4⟩)
  clear b0 b1 b2 b3 b4 HCG
  have hb4' := HB3.out.trans hb4
  -- what it becomes
  have hlay2 : lay2 s want join raw ra rl = L2 := by unfold lay2; rw [hF0, hfr, htt2, hL1d, hL2d]
  have hL2n : L2.length = L1.length := by rw [← hL2d, List.length_map]
  obtain ⟨n, hn⟩ : ∃ n, L2.length = n := ⟨_, rfl⟩
  have hn2 : n ≤ 2097152 := by omega
  rw [hlay2] at HL2
  obtain ⟨la, lcap, hlv', _, _⟩ := hO4.slice
  subst hlv'
  rw [hn] at hL4 hO4
  have hS4 : ChS W1 (B + 2) (.slice la n lcap) (.slice none 0 0) fr tt bs 0 L2 w4 := ⟨hL4, hO4, hb4'⟩
  have HS4 := Lib.hid hS4
  have k0 := hL4.cells.1
  clear hL4 hO4 hb4 hb4' HB3 HL1 HFC HLV hS4
  clear hs1
  obtain ⟨tl, htl⟩ : ∃ tl, tailF s L2 n = tl := ⟨_, rfl⟩
  go_upto_block 0 with (fail)
  clear k0
  go_cut [8] (fun u wx => u = .int .i64 tl ∧ ChS W1 (B + 2) (.slice la n lcap) (.slice none 0 0) fr tt bs 0 L2 wx)
  case first =>
    go_wp2_with (fail)
    go_loopw [8] (fun u wx => ∃ t : Nat, t ≤ n ∧ u = .int .i64 t ∧ tailF s L2 t = tl ∧ ChS W1 (B + 2) (.slice la n lcap) (.slice none 0 0) fr tt bs 0 L2 wx) (fun u _ => (intOf u).toNat)
    case atStart => exact ⟨n, Nat.le_refl _, rfl, htl, HS4.out⟩
    case round =>
      obtain ⟨t, ht, rfl, htt', hS⟩ := hrel
      have HSr := Lib.hid hS
      have HTr := Lib.hid htt'
      clear hS htt' HS4
      cases t with
      | succ t =>
        obtain ⟨p, hp⟩ : ∃ p, L2[t]? = some p := ⟨_, List.getElem?_eq_getElem (by omega)⟩
        have hpg : L2.getD t default = p := by rw [List.getD_eq_getElem?_getD, hp]; rfl
        have hBL := rBlank_any s hs (B + 2) _ _ fr tt bs 0 L2 wr HSr.out.ld HSr.out.own (HX.out wr HSr.out.bel).1 t p hp (by have := (HL2.out t p hp).1; omega)
        have HBL := Lib.hid hBL
        have hw1 : IntKind.i64.wrap (((t + 1 : Nat) : Int) - 1) = (t : Int) := by rw [IntKind.wrap_i64]; omega
        have hp1 : (0 : Int) < ((t + 1 : Nat) : Int) := by omega
        have HPG := Lib.hid hpg
        clear hBL hp hpg
        cases hbk : blankP s p with
        | true =>
          rw [hbk] at HBL
          go_wp2_with (go_at_call 51; refine HBL.out.mono ?_; rintro e w5 ⟨rfl, hb5⟩)
          go_roundw
          case rel => exact ⟨t, by omega, by go_num, by rw [← HTr.out, tailF_out s L2 t (by rw [HPG.out]; exact hbk)], HSr.out.below hb5⟩
          case measure => simp [intOf]
        | false =>
          rw [hbk] at HBL
          go_wp2_with (go_at_call 51; refine HBL.out.mono ?_; rintro e w5 ⟨rfl, hb5⟩)
          go_meet
          exact ⟨by rw [← HTr.out, tailF_in s L2 t (by rw [HPG.out]; exact hbk)]; rfl, HSr.out.below hb5⟩
      | zero =>
        go_wp2_with (fail)
        go_meet
        exact ⟨by rw [← HTr.out]; rfl, HSr.out⟩
  case rest =>
    obtain ⟨rfl, hSc⟩ := hcut
    obtain ⟨i5, hi5, hz5, ha5, hb5⟩ := info_parts (Tryz.info_u8)
    have k0 := hSc.ld.cells.1
    obtain ⟨W8, hmk, hown8, hg8⟩ := run_make_own (P := Tryz.prog) wc wc.heap.size 42 5 i5 (.int .u8 0) 1 Tryz.underlying42 hi5 hz5 ha5 .i64 .i64 n (by rw [hb5]; omega) (by unfold maxLen; omega) (Nat.le_refl _)
    have hb8 : Below wc.heap.size wc W8 := (Below.refl wc.heap.size wc).grown hg8 (Nat.le_refl _) (fun k hk => by cases hk)
    have HS8 := Lib.hid (hSc.below hb8)
    have hSc' := Lib.hid hSc
    have hsz8 := hb8.size
    obtain ⟨ob0, hob0⟩ : ∃ ob0, wc.heap.size = ob0 := ⟨_, rfl⟩
    rw [hob0] at hown8 hmk
    have HO8 := Lib.hid hown8
    have hobl : B + 2 < ob0 := by have := hSc.ld.lt; omega
    have hk8 := HS8.out.ld.cells.1
    clear hSc hown8 hg8 hb8 HS4
    go_upto_region 9 with (fail)
    clear hmk k0
    go_upto_block 2 with (fail)
    clear hk8
    have hGO : ∀ g, (Value.slice la n lcap).ownBlock = some g → g < ob0 := fun g hg => by rw [← hob0]; exact (World.ownsRow.lt hSc'.out.own g hg).2
    have HGO := Lib.hid hGO
    clear hGO hSc'
    have hLS8 : LoS W1 (B + 2) (.slice la n lcap) (.slice none 0 0) fr tt bs 0 L2 ob0 (some ⟨ob0, 0, none⟩) n [] W8 := ⟨HS8.out, HO8.out, by rw [← hob0]; exact hsz8⟩
    have HLS8 := Lib.hid hLS8
    clear hLS8 HS8 HO8
    obtain ⟨Z, hZ⟩ : ∃ Z, layF rwd tab wideA raw L2 0 0 tl = Z := ⟨_, rfl⟩
    have htln : tl ≤ n := by rw [← htl]; exact tailF_le s L2 n
    have HTL := Lib.hid htl
    clear htl
    go_wp2_with (fail)
    go_loopw [8, 9, 10, 11, 12, 13, 58] (fun u8 u9 _ _ _ _ u58 wx => ∃ (i : Nat) (done : List Pc) (t x : Int) (oa : Option Addr) (oc : Nat), i ≤ n ∧ done.length = i ∧ u58 = .int .i64 i ∧ u8 = .int .i64 t ∧ -1 ≤ t ∧ t ≤ n ∧ u9 = .slice oa i oc ∧ 0 ≤ x ∧ x ≤ 19 * i ∧
      LoS W1 (B + 2) (.slice la n lcap) (.slice none 0 0) fr tt bs x (done ++ L2.drop i) ob0 oa oc (ints ((L2.take i).map (·.level))) wx ∧
      Z = (done ++ (layF rwd tab wideA raw (L2.drop i) i x t).1, (layF rwd tab wideA raw (L2.drop i) i x t).2)) (fun _ _ _ _ _ _ u58 _ => n - (intOf u58).toNat)
    case atStart => exact ⟨0, [], tl, 0, _, _, Nat.zero_le _, rfl, rfl, rfl, by omega, by omega, rfl, by omega, by omega, HLS8.out, by rw [← hZ]; rfl⟩
    case round =>
      obtain ⟨i, done, t, x, oa, oc, hi, hdl, rfl, rfl, ht1, ht2, rfl, hx1, hx2, hS, hZi⟩ := hrel
      have HS := Lib.hid hS
      have HZ := Lib.hid hZi
      have HZ0 := Lib.hid hZ
      clear hS hZi HLS8 hZ
      by_cases hlt : i < n
      · obtain ⟨p, hp⟩ : ∃ p, L2[i]? = some p := ⟨_, List.getElem?_eq_getElem (by omega)⟩
        have hpd : L2.drop i = p :: L2.drop (i + 1) := dropR_cons hp
        have hM : (done ++ L2.drop i)[i]? = some p := by rw [List.getElem?_append_right (by omega), hdl, Nat.sub_self, hpd]; rfl
        have hMl : (done ++ L2.drop i).length = n := by rw [List.length_append, List.length_drop]; omega
        have hMs : ∀ q, (done ++ L2.drop i).set i q = (done ++ [q]) ++ L2.drop (i + 1) := fun q => by
          rw [List.set_append_right _ _ (by omega), hdl, Nat.sub_self, hpd, List.set_cons_zero, List.append_assoc]
          rfl
        have hMk : done ++ L2.drop i = (done ++ [p]) ++ L2.drop (i + 1) := by rw [hpd, List.append_assoc]; rfl
        obtain ⟨M, hMM⟩ : ∃ M, done ++ L2.drop i = M := ⟨_, rfl⟩
        rw [hMM] at HS hM hMl hMs hMk
        have hrow : OwnS pcE 75 wr (B + 2 + 1) (.slice la M.length lcap) M := by rw [hMl]; exact HS.out.ch.own
        obtain ⟨G, eG, hGb, hGl, hcell, hfz⟩ := hrow.at i p hM
        subst eG
        have hGo : G < ob0 := HGO.out G rfl
        have y4 : wr.cell? ⟨G, i * 10 + 4, none⟩ = some (.int .u8 p.level) := hcell 4 _ rfl
        have k0 := HS.out.ch.ld.cells.1
        have hpf := HL2.out i p hp
        have htk : ints ((L2.take (i + 1)).map (·.level)) = ints ((L2.take i).map (·.level)) ++ [(p.level : Int)] := by rw [take_snoc hp, List.map_append]; unfold ints; rw [List.map_append]; rfl
        obtain ⟨os, hos⟩ : ∃ os, ints ((L2.take i).map (·.level)) = os := ⟨_, rfl⟩
        have hosl : os.length = i := by rw [← hos]; unfold ints; rw [List.length_map, List.length_map, List.length_take]; omega
        rw [hos] at HS htk
        have HTK := Lib.hid htk
        have HMS := Lib.hid hMs
        have HMK := Lib.hid hMk
        have HPD := Lib.hid hpd
        have HHM := Lib.hid hM
        have hMML : M.length = n := hMl
        have hob2 : ob0 ≤ wr.heap.size := HS.out.sz
        have HO := Lib.hid HS.out.out
        clear hcell hrow hos htk hMs hMk hpd hM hMM hp
        go_upto_region 14 with (at_builtin; refine wpList_append_own _ rfl _ _ 42 rfl ob0 5 i5 (.int .u8 0) 1 1 Tryz.underlying42 hi5 hz5 ha5 hb5 rfl (by decide) _ i _ rfl (by have h := HO.out.alloc (.cells #[.int .u8 p.level] 5); rw [hosl] at h; exact h) ⟨wr.heap.size, 0, none⟩ 1 1 [.int .u8 p.level] rfl rfl (cell_one_new _ _ _) (by simp [Value.oneCell']) (by unfold maxLen; omega) (by omega) (by simp; omega) ?_; intro v' w5 ho hg _)
        replace hg : (wr.alloc (.cells #[.int .u8 p.level] 5)).grownBy w5 (Value.slice oa i oc).ownBlock := hg
        have hol := World.ownsRow.lt HO.out
        rw [hosl] at hol
        have hb5' : Below ob0 wr w5 := ((Below.refl ob0 wr).alloc hob2 _).grown hg (by simp; omega) (fun k hk => (hol k hk).1)
        have hsz5 : ob0 ≤ w5.heap.size := Nat.le_trans hob2 hb5'.size
        have hm : os.map (Value.int .u8) ++ [.int .u8 p.level] = (os ++ [(p.level : Int)]).map (Value.int .u8) := by rw [List.map_append]; rfl
        rw [hm] at ho
        obtain ⟨va, vc, hva, _, _⟩ := own_slice ho
        subst hva
        have hS5 : LoS W1 (B + 2) (.slice (some ⟨G, 0, none⟩) n lcap) (.slice none 0 0) fr tt bs x M ob0 va vc (os ++ [(p.level : Int)]) w5 := by
          refine ⟨⟨HS.out.ch.ld.below hb5' (by omega), own_low HS.out.ch.own HGO.out hb5', HS.out.ch.bel.trans (hb5'.mono (by omega))⟩, ?_, hsz5⟩
          unfold OutAt
          rw [List.length_append, hosl]
          exact ho
        have HKC : Hid (∀ W, LoS W1 (B + 2) (.slice (some ⟨G, 0, none⟩) n lcap) (.slice none 0 0) fr tt bs x M ob0 va vc (os ++ [(p.level : Int)]) W → W.cell? ⟨G, i * 10 + 5, none⟩ = some (.string p.became) ∧ W.cell? ⟨B + 2, 5, none⟩ = some (.int .i64 x) ∧ W.cell? ⟨B + 1, 0, none⟩ = some (.int .i64 tab) ∧ W.cell? ⟨B + 1, 1, none⟩ = some (.bool wideA) ∧
            W.cell? ⟨B + 1, 2, none⟩ = some (.int .i8 want) ∧ W.cell? ⟨B + 1, 3, none⟩ = some (.bool join) ∧ W.cell? ⟨B + 1, 4, none⟩ = some (.bool raw) ∧ LoS W1 (B + 2) (.slice (some ⟨G, 0, none⟩) n lcap) (.slice none 0 0) fr tt bs x M ob0 va vc (os ++ [(p.level : Int)]) W) := Lib.hid fun W h => by
          have hr : OwnS pcE 75 W (B + 2 + 1) (.slice (some ⟨G, 0, none⟩) M.length lcap) M := by rw [hMML]; exact h.ch.own
          obtain ⟨G', eG, _, _, hc, _⟩ := hr.at i p HHM.out
          cases eG
          have hk := (HX.out W h.ch.bel).2.2.2
          refine ⟨hc 5 _ rfl, h.ch.ld.cells.2.2.2.2.2, ?_, ?_, ?_, ?_, ?_, h⟩ <;> simp [World.cell?, hk]
        obtain ⟨T, hTT⟩ : ∃ T, textI p.became x tab wideA raw = T := ⟨_, rfl⟩
        have htb := textI_bd p.became x tab wideA raw
        rw [hTT] at htb
        have HTX : Hid (∀ W, LoS W1 (B + 2) (.slice (some ⟨G, 0, none⟩) n lcap) (.slice none 0 0) fr tt bs x M ob0 va vc (os ++ [(p.level : Int)]) W → Calls Tryz.prog 17 #[.string p.became, .int .i64 x, lookV tab want wideA join raw] W fun e w' => e = .returned (.tuple #[.string T.1, .int .i64 T.2]) ∧
            LoS W1 (B + 2) (.slice (some ⟨G, 0, none⟩) n lcap) (.slice none 0 0) fr tt bs x M ob0 va vc (os ++ [(p.level : Int)]) w') := Lib.hid fun W h => by
          have := text_anyB p.became (by omega) x tab want wideA join raw W (HX.out W h.ch.bel).1 (HX.out W h.ch.bel).2.1
          rw [hTT] at this
          exact this.mono fun e w' ⟨h1, h2⟩ => ⟨h1, h.below h2⟩
        have HTT := Lib.hid hTT
        obtain ⟨j5, j6, l0, l1, l2, l3, l4, hS5'⟩ := HKC.out _ hS5
        clear hTT ho hg hm hol hb5' hsz5 HO hS5 y4 k0 HS hfz
        go_region_held3 (fun w' => w'.cell? ⟨G, i * 10 + 5, none⟩ = some (.string p.became) ∧ w'.cell? ⟨B + 2, 5, none⟩ = some (.int .i64 x) ∧ w'.cell? ⟨B + 1, 0, none⟩ = some (.int .i64 tab) ∧ w'.cell? ⟨B + 1, 1, none⟩ = some (.bool wideA) ∧
            w'.cell? ⟨B + 1, 2, none⟩ = some (.int .i8 want) ∧ w'.cell? ⟨B + 1, 3, none⟩ = some (.bool join) ∧ w'.cell? ⟨B + 1, 4, none⟩ = some (.bool raw) ∧ LoS W1 (B + 2) (.slice (some ⟨G, 0, none⟩) n lcap) (.slice none 0 0) fr tt bs x M ob0 va vc (os ++ [(p.level : Int)]) w')
          ((refine HKC.out _ ?_; (repeat (first | assumption | refine LoS.drew ?_))))
          ((go_at_call 17; refine (HTX.out _ (by (repeat (first | assumption | refine LoS.drew ?_)))).mono ?_; rintro e w6 ⟨rfl, hS6⟩))
        have HS6 := Lib.hid hS6
        clear j5 j6 l0 l1 l2 l3 l4 hS5' HTX hS6 HKC
        obtain ⟨T1, T2⟩ := T
        dsimp only at htb ⊢
        obtain ⟨t', ht'⟩ : ∃ t', tlF rwd i x T2 t = t' := ⟨_, rfl⟩
        go_upto_region 15 with (fail)
        go_cut [100] (fun c wx => c = .bool (decide (t ≤ (i : Int) ∧ rwd < x + T2)) ∧ LoS W1 (B + 2) (.slice (some ⟨G, 0, none⟩) n lcap) (.slice none 0 0) fr tt bs x M ob0 va vc (os ++ [(p.level : Int)]) wx)
        case first =>
          have r3 : w6.cell? ⟨B, 3, none⟩ = some (.int .i64 rwd) := by simp [World.cell?, (HX.out w6 HS6.out.ch.bel).2.2.1]
          have k5 := HS6.out.ch.ld.cells.2.2.2.2.2
          have hwr : IntKind.i64.wrap (x + T2) = x + T2 := by rw [IntKind.wrap_i64]; omega
          by_cases h1 : t ≤ (i : Int)
          · have hd1 : decide (t ≤ (i : Int)) = true := decide_eq_true h1
            have hd2 : decide (t ≤ (i : Int) ∧ rwd < x + T2) = decide (rwd < x + T2) := by simp [h1]
            have HD2 := Lib.hid hd2
            clear hd2
            go_quiet (fail)
            go_wp2_with (fail)
            go_meet
            exact ⟨by rw [HD2.out], HS6.out.drewN _⟩
          · have hd1 : decide (t ≤ (i : Int)) = false := decide_eq_false h1
            have hd2 : decide (t ≤ (i : Int) ∧ rwd < x + T2) = false := by simp [h1]
            have HD2 := Lib.hid hd2
            clear hd2
            go_quiet (fail)
            go_wp2_with (fail)
            go_meet
            exact ⟨by rw [HD2.out], HS6.out.drewN _⟩
        case rest =>
          obtain ⟨rfl, hS7⟩ := hcut
          have HS7 := Lib.hid hS7
          obtain ⟨d, hd⟩ : ∃ d, decide (t ≤ (i : Int) ∧ rwd < x + T2) = d := ⟨_, rfl⟩
          rw [hd]
          have hdt : t' = if d = true then -1 else t := by rw [← ht', ← hd]; unfold tlF; simp
          have HDT := Lib.hid hdt
          have HT' := Lib.hid ht'
          clear hS7 HS6 hd hdt ht'
          go_upto_if 100 with (fail)
          go_cut [8] (fun u wx => u = .int .i64 t' ∧ LoS W1 (B + 2) (.slice (some ⟨G, 0, none⟩) n lcap) (.slice none 0 0) fr tt bs x M ob0 va vc (os ++ [(p.level : Int)]) wx)
          case first =>
            cases d with
            | true =>
              go_wp2_with (fail)
              go_meet
              exact ⟨by rw [HDT.out]; rfl, HS7.out⟩
            | false =>
              go_wp2_with (fail)
              go_meet
              exact ⟨by rw [HDT.out]; rfl, HS7.out⟩
          case rest =>
            obtain ⟨rfl, hS8⟩ := hcut
            have HS8 := Lib.hid hS8
            have htt3 : t' = -1 ∨ t' = t := by rw [HDT.out]; cases d <;> simp
            have hwi : IntKind.i64.wrap ((i : Int) + 1) = (i : Int) + 1 := by rw [IntKind.wrap_i64]; omega
            have hwr : IntKind.i64.wrap (x + T2) = x + T2 := by rw [IntKind.wrap_i64]; omega
            clear hS8 HDT HS7
            by_cases h0 : 0 ≤ t'
            · have hr8 : OwnS pcE 75 wc (B + 2 + 1) (.slice (some ⟨G, 0, none⟩) M.length lcap) M := by rw [hMML]; exact HS8.out.ch.own
              obtain ⟨G', eG, _, _, hc8, hf8⟩ := hr8.at i p HHM.out
              cases eG
              have q6 : wc.cell? ⟨G, i * 10 + 6, none⟩ = some (.string p.shown) := hc8 6 _ rfl
              have q7 : wc.cell? ⟨G, i * 10 + 7, none⟩ = some (.int .i64 p.wide) := hc8 7 _ rfl
              have f6 := hf8 (i * 10 + 6)
              have f7 := hf8 (i * 10 + 7)
              have hS9 := HS8.out.set hMML hGo i p HHM.out T1 T2
              rw [HMS.out] at hS9
              have HS9 := Lib.hid hS9
              clear hr8 hf8 hc8 hS9
              go_upto_region 19 with (fail)
              clear f6 f7 q6 q7 HS8
              generalize (wc.setCell ⟨G, i * 10 + 6, none⟩ (.string T1)).setCell ⟨G, i * 10 + 7, none⟩ (.int .i64 T2) = W9 at HS9 ⊢
              have k5 := HS9.out.ch.ld.cells.2.2.2.2.2
              have f5 := HS9.out.ch.ld.frz 5
              have HS10 := Lib.hid (HS9.out.setx (by omega) (x + T2))
              clear HS9
              go_wp2_with (fail)
              go_roundw
              case rel => exact ⟨i + 1, done ++ [{ p with shown := T1, wide := T2 }], t', x + T2, va, vc, by omega, by rw [List.length_append, hdl]; rfl, by go_num, rfl, by omega, by omega, rfl, by omega, by omega, by rw [HTK.out]; exact HS10.out, by
                rw [HZ.out, HPD.out, layF_cons, HTT.out]
                dsimp only
                rw [HT'.out, if_pos h0, List.append_assoc]
                rfl⟩
              case measure => simp [intOf]; omega
            · go_wp2_with (fail)
              go_roundw
              case rel => exact ⟨i + 1, done ++ [p], t', x, va, vc, by omega, by rw [List.length_append, hdl]; rfl, by go_num, rfl, by omega, by omega, rfl, by omega, by omega, by rw [HTK.out, ← HMK.out]; exact HS8.out, by
                obtain rfl : t' = -1 := by omega
                rw [HZ.out, HPD.out, layF_cons, HTT.out]
                dsimp only
                rw [HT'.out, if_neg h0, List.append_assoc]
                rfl⟩
              case measure => simp [intOf]; omega
      · obtain rfl : i = n := by omega
        have hd0 : L2.drop i = [] := List.drop_eq_nil_of_le (by omega)
        have ht0 : L2.take i = L2 := List.take_of_length_le (by omega)
        have hz := HZ.out
        have hs := HS.out
        rw [hd0, layF] at hz
        dsimp only at hz
        rw [List.append_nil] at hz
        rw [hd0, ht0, List.append_nil] at hs
        obtain ⟨ls, hls⟩ : ∃ ls, L2.map (·.level) = ls := ⟨_, rfl⟩
        have hlsn : ls.length = i := by rw [← hls, List.length_map]; exact hn
        rw [hls] at hs
        have hlen1 := (World.ownsRow.lt hs.ch.own)
        have hOR := Order_any oa ls i oc wr hlsn hs.out.rd (by omega)
        have HOR := Lib.hid hOR
        have HS1 := Lib.hid hs
        have HLS := Lib.hid hls
        have HZ1 := Lib.hid hz
        have hln : (ints ls).length = i := by unfold ints; rw [List.length_map]; exact hlsn
        clear hlt hd0 ht0 hz hs hOR HS HZ hls hlen1
        obtain ⟨seen, hsn⟩ : ∃ seen, orderI ls = seen := ⟨_, rfl⟩
        have hsl : seen.length = i := by rw [← hsn, order_len]; exact hlsn
        have hsg : ∀ k, k < i → ∃ j : Nat, j < i ∧ seen[k]? = some (j : Int) := fun k hk => by rw [← hsn]; exact seen_get ls i k hlsn hk
        have HSG := Lib.hid hsg
        have HSN := Lib.hid hsn
        obtain ⟨sg, hsg0⟩ : ∃ sg, wr.heap.size = sg := ⟨_, rfl⟩
        have hosg : ob0 ≤ sg := by have := HS1.out.sz; omega
        have HFZ : Hid (∀ w5, Below wr.heap.size wr w5 → w5.frozen? ⟨B + 2, 1, none⟩ = false ∧ w5.cell? ⟨B + 2, 1, none⟩ = some (.slice none 0 0)) := Lib.hid fun w5 h => ⟨(HS1.out.ch.ld.below h HS1.out.ch.ld.lt).frz 1, (HS1.out.ch.ld.below h HS1.out.ch.ld.lt).cells.2.1⟩
        clear hsg hsn
        go_upto_region 22 with (go_at_call 52; refine HOR.out.mono ?_; rintro e w5 ⟨rfl, hso, hb5⟩; obtain ⟨f1, q1⟩ := HFZ.out w5 hb5)
        rw [HSN.out] at hso
        rw [hsg0] at hso hb5
        have hso2 := hso.rd
        have hS5 : ChS W1 (B + 2) (.slice la i lcap) (.slice none 0 0) fr tt bs x done w5 := HS1.out.ch.below (hsg0 ▸ hb5)
        have hS6 : ChS W1 (B + 2) (.slice la i lcap) (.slice (some ⟨sg, 0, none⟩) i i) fr tt bs x done (w5.setCell ⟨B + 2, 1, none⟩ (.slice (some ⟨sg, 0, none⟩) i i)) :=
          ⟨hS5.ld.set1 _, hS5.own.other (fun g hg => by have := (World.ownsRow.lt hS5.own g hg).1; omega), bl_set hS5.bel _ _⟩
        have hR6 : Rd .i64 (w5.setCell ⟨B + 2, 1, none⟩ (.slice (some ⟨sg, 0, none⟩) i i)) (some ⟨sg, 0, none⟩) seen := rd_set hso2 (by omega)
        have hs6 : sg ≤ (w5.setCell ⟨B + 2, 1, none⟩ (.slice (some ⟨sg, 0, none⟩) i i)).heap.size := by have := hb5.size; simp; omega
        clear f1 q1 hso hso2 hb5 hS5 HFZ HS1 HOR
        generalize w5.setCell ⟨B + 2, 1, none⟩ (.slice (some ⟨sg, 0, none⟩) i i) = W6 at hS6 hR6 hs6 ⊢
        have k1 := hS6.ld.cells.2.1
        have HS6 := Lib.hid hS6
        have HR6 := Lib.hid hR6
        clear hS6 hR6
        have hlay3 : lay3 s tab want wideA join raw ra rl rwd = (done, x) := by
          unfold lay3
          rw [hlay2, hn, HTL.out, HZ0.out, HZ1.out]
        have hdw : ∀ p ∈ done, 0 ≤ p.wide ∧ p.wide ≤ 19 := fun p hp => lay3_bd s tab want wideA join raw ra rl rwd p (by rw [hlay3]; exact hp)
        have HDW := Lib.hid hdw
        have HL3 := Lib.hid hlay3
        obtain ⟨E, hE⟩ : ∃ E, edgeF seen 0 done = E := ⟨_, rfl⟩
        have HE := Lib.hid hE
        clear hdw hlay3 hE
        go_upto_block 4 with (fail)
        clear k1
        go_wp2_with (fail)
        go_loopw [14, 16, 130] (fun u14 _ u130 wx => ∃ (k : Nat) (x' : Int) (M : List Pc), k ≤ i ∧ u130 = .int .i64 k ∧ u14 = .int .i64 x' ∧ 0 ≤ x' ∧ x' ≤ 19 * k ∧ M.length = i ∧ (∀ p ∈ M, 0 ≤ p.wide ∧ p.wide ≤ 19) ∧ edgeF (seen.drop k) x' M = E ∧
          ChS W1 (B + 2) (.slice la i lcap) (.slice (some ⟨sg, 0, none⟩) i i) fr tt bs x M wx ∧ Rd .i64 wx (some ⟨sg, 0, none⟩) seen) (fun _ _ u130 _ => i - (intOf u130).toNat)
        case atStart => exact ⟨0, 0, done, Nat.zero_le _, rfl, rfl, by omega, by omega, hdl, HDW.out, by rw [List.drop_zero]; exact HE.out, HS6.out, HR6.out⟩
        case round =>
          obtain ⟨k, x', M, hk, rfl, rfl, hx1', hx2', hMl, hMw, hME, hS, hR⟩ := hrel
          have HSk := Lib.hid hS
          have HRk := Lib.hid hR
          have HMW := Lib.hid hMw
          have HME := Lib.hid hME
          clear hS hR hMw hME HS6 HR6 HDW
          by_cases hlt : k < i
          · obtain ⟨j, hj, hsj⟩ := HSG.out k hlt
            obtain ⟨p, hp⟩ : ∃ p, M[j]? = some p := ⟨_, List.getElem?_eq_getElem (by omega)⟩
            have hpw := HMW.out p (List.mem_of_getElem? hp)
            have hds : seen.drop k = (j : Int) :: seen.drop (k + 1) := dropR_cons hsj
            have hrow : OwnS pcE 75 wr (B + 2 + 1) (.slice la M.length lcap) M := by rw [hMl]; exact HSk.out.own
            obtain ⟨G, eG, hGb, hGl, hcell, hfz⟩ := hrow.at j p hp
            subst eG
            have hGo := HGO.out G rfl
            have ys : wr.cell? ⟨sg, k, none⟩ = some (.int .i64 (j : Int)) := by
              rcases HRk.out with h | ⟨g, o, e, h1, h2⟩
              · rw [h] at hsl; simp at hsl; omega
              · cases e
                have := h2 k (by omega)
                rw [Nat.zero_add] at this
                rw [this]
                unfold ith
                rw [List.getD_eq_getElem?_getD, hsj]
                rfl
            have k0 := HSk.out.ld.cells.1
            have y7 : wr.cell? ⟨G, j * 10 + 7, none⟩ = some (.int .i64 p.wide) := hcell 7 _ rfl
            have y8 : wr.cell? ⟨G, j * 10 + 8, none⟩ = some (.int .i64 p.e0) := hcell 8 _ rfl
            have y9 : wr.cell? ⟨G, j * 10 + 9, none⟩ = some (.int .i64 p.e1) := hcell 9 _ rfl
            have f8 := hfz (j * 10 + 8)
            have f9 := hfz (j * 10 + 9)
            have hwx : IntKind.i64.wrap (x' + p.wide) = x' + p.wide := by rw [IntKind.wrap_i64]; omega
            have HDS := Lib.hid hds
            have HP := Lib.hid hp
            clear hcell hfz hrow hds hp hsj
            go_upto_region 26 with (fail)
            obtain ⟨S, hSi, hSo⟩ : ∃ S : World → Prop, (∀ W : World, W.cell? ⟨B + 2, 0, none⟩ = some (.slice (some ⟨G, 0, none⟩) i lcap) → W.cell? ⟨G, j * 10 + 7, none⟩ = some (.int .i64 p.wide) → S W) ∧ (∀ W : World, S W → W.cell? ⟨B + 2, 0, none⟩ = some (.slice (some ⟨G, 0, none⟩) i lcap) ∧ W.cell? ⟨G, j * 10 + 7, none⟩ = some (.int .i64 p.wide)) :=
              ⟨fun W => W.cell? ⟨B + 2, 0, none⟩ = some (.slice (some ⟨G, 0, none⟩) i lcap) ∧ W.cell? ⟨G, j * 10 + 7, none⟩ = some (.int .i64 p.wide), fun _ h h' => ⟨h, h'⟩, fun _ h => h⟩
            have HSi := Lib.hid hSi
            have hne : Nonempty (WIn S) := ⟨⟨_, hSi _ k0 y7⟩⟩
            have kp_0 : ∀ q : WIn S, q.w.cell? ⟨B + 2, 0, none⟩ = some (.slice (some ⟨G, 0, none⟩) i lcap) := fun q => (hSo _ q.h).1
            have kp_7 : ∀ q : WIn S, q.w.cell? ⟨G, j * 10 + 7, none⟩ = some (.int .i64 p.wide) := fun q => (hSo _ q.h).2
            clear hSi hSo
            refine wp_region_seg S [19] (by kernel_rfl) (by kernel_rfl) (HSi.out _ k0 y7) ?_
            simp only [segH, List.take_succ_cons, List.take_zero, List.drop_succ_cons, List.drop_zero]
            repeat (go_big_quiet_step (fail))
            refine wpQuiet_nil ?_
            intro K hK
            have HKK := Lib.hid hK
            clear hK
            go_wp2_with (fail)
            have hS9 := HSk.out.setE hMl j p HP.out x' (x' + p.wide)
            have hR9 : Rd .i64 ((wr.setCell ⟨G, j * 10 + 8, none⟩ (.int .i64 x')).setCell ⟨G, j * 10 + 8 + 1, none⟩ (.int .i64 (x' + p.wide))) (some ⟨sg, 0, none⟩) seen := rd_set (rd_set HRk.out (by omega)) (by omega)
            clear k0 y7 y8 y9 f8 f9 ys kp_0 kp_7 hne HSk HRk
            generalize (wr.setCell ⟨G, j * 10 + 8, none⟩ (.int .i64 x')).setCell ⟨G, j * 10 + 8 + 1, none⟩ (.int .i64 (x' + p.wide)) = W9 at hS9 hR9 ⊢
            have hjM : j < M.length := by omega
            have hp9 : (M.set j { p with e0 := x', e1 := x' + p.wide })[j]? = some { p with e0 := x', e1 := x' + p.wide } := by rw [List.getElem?_set]; simp [hjM]
            have hr9 : OwnS pcE 75 W9 (B + 2 + 1) (.slice (some ⟨G, 0, none⟩) (M.set j { p with e0 := x', e1 := x' + p.wide }).length lcap) (M.set j { p with e0 := x', e1 := x' + p.wide }) := by rw [List.length_set, hMl]; exact hS9.own
            obtain ⟨G', eG, _, _, hc9, _⟩ := hr9.at j _ hp9
            cases eG
            have k0 : W9.cell? ⟨B + 2, 0, none⟩ = some (.slice (some ⟨G, 0, none⟩) i lcap) := hS9.ld.cells.1
            have y7 : W9.cell? ⟨G, j * 10 + 7, none⟩ = some (.int .i64 p.wide) := hc9 7 _ rfl
            have HS9 := Lib.hid hS9
            have HR9 := Lib.hid hR9
            clear hp9 hr9 hc9 hS9 hR9
            refine HKK.out _ _ (HSi.out _ k0 y7) ?_
            clear HKK HSi
            refine wpQuiet_nil (NoPanic.normal ?_)
            go_wp2_with (fail)
            go_roundw
            case rel => exact ⟨k + 1, x' + p.wide, M.set j { p with e0 := x', e1 := x' + p.wide }, by omega, by go_num, rfl, by omega, by omega, by rw [List.length_set]; exact hMl, fun q hq => by
              rcases List.mem_or_eq_of_mem_set hq with h | rfl
              · exact HMW.out q h
              · exact hpw, by rw [← HME.out, HDS.out, edgeF_step j _ x' M p HP.out], HS9.out.drew, HR9.out⟩
            case measure => simp [intOf]; omega
          · obtain rfl : k = i := by omega
            have hME := HME.out
            rw [List.drop_eq_nil_of_le (by omega)] at hME
            have hME2 : M = E := hME
            have hN2 : N = ⟨M, seen, fr, tt, bs, x⟩ := by
              rw [← hN]
              unfold layI layL laySeen
              rw [hlay2, HLS.out, HSN.out, HL3.out, HE.out, hfr, htt2, hbs, hME2]
            have hfin : LaidW wr (B + 2) N := by
              rw [hN2]
              refine ⟨la, lcap, some ⟨sg, 0, none⟩, k, ?_, ?_, HRk.out⟩
              · show LdB wr (B + 2) (.slice la M.length lcap) (.slice (some ⟨sg, 0, none⟩) seen.length k) fr tt bs x
                rw [hMl, hsl]
                exact HSk.out.ld
              · show OwnS pcE 75 wr (B + 2 + 1) (.slice la M.length lcap) M
                rw [hMl]
                exact HSk.out.own
            have HFIN := Lib.hid hfin
            clear hME hME2 hN2 hfin hlt
            go_wp2_with (fail)
            go_ret
            exact ⟨B + 2, rfl, HFIN.out, by omega, HB1.out.trans (HSk.out.bel.mono (by omega))⟩
end
section
set_option linter.unusedVariables false
set_option linter.unusedSimpArgs false
open Go.RowKit Go.Proofs Go.Shelf
attribute [local go_sem] Oper.semAt_some

/-- the cells of a cluster that is laid -/
theorem pc_cells {w : World} {b : Nat} {la : Option Addr} {lcap : Nat} {L : List Pc} (hO : OwnS pcE 75 w (b + 1) (.slice la L.length lcap) L) (i : Nat) (p : Pc) (hp : L[i]? = some p) :
    ∃ G, la = some ⟨G, 0, none⟩ ∧ G < w.heap.size ∧ w.cell? ⟨G, i * 10, none⟩ = some (.int .i64 p.a) ∧ w.cell? ⟨G, i * 10 + 1, none⟩ = some (.int .i64 p.size) ∧ w.cell? ⟨G, i * 10 + 2, none⟩ = some (.int .i64 p.c0) ∧ w.cell? ⟨G, i * 10 + 3, none⟩ = some (.int .i64 p.c1) ∧
      w.cell? ⟨G, i * 10 + 4, none⟩ = some (.int .u8 p.level) ∧ w.cell? ⟨G, i * 10 + 5, none⟩ = some (.string p.became) ∧ w.cell? ⟨G, i * 10 + 6, none⟩ = some (.string p.shown) ∧ w.cell? ⟨G, i * 10 + 7, none⟩ = some (.int .i64 p.wide) ∧ w.cell? ⟨G, i * 10 + 8, none⟩ = some (.int .i64 p.e0) ∧ w.cell? ⟨G, i * 10 + 9, none⟩ = some (.int .i64 p.e1) := by
  obtain ⟨G, eG, hGb, hGl, hc, _⟩ := hO.at i p hp
  exact ⟨G, eG, hGl, hc 0 _ rfl, hc 1 _ rfl, hc 2 _ rfl, hc 3 _ rfl, hc 4 _ rfl, hc 5 _ rfl, hc 6 _ rfl, hc 7 _ rfl, hc 8 _ rfl, hc 9 _ rfl⟩
set_option maxRecDepth 100000 in
set_option maxHeartbeats 2000000 in
theorem rEdge_any (b : Nat) (R : LaidR) (i : Nat) (back : Bool) (w : World) (hL : LaidW w b R) (hi : i ≤ R.l.length) (hbs : R.base < 256) (hlv : ∀ p ∈ R.l, p.level < 256) (hn : R.l.length ≤ 2097152) :
    Calls Tryz.prog 41 #[.pointer (some ⟨b, 0, none⟩), .int .i64 i, .bool back] w fun e w' => e = .returned (.int .i64 (edgeI R i back)) ∧ Below w.heap.size w w' := by
  obtain ⟨L, seen, fr, tt, bs, x⟩ := R
  obtain ⟨la, lcap, va, vc, h1, h2, h3⟩ := hL
  dsimp only at h1 h2 h3 hi hbs hlv hn
  obtain ⟨V, hV⟩ : ∃ V, edgeI ⟨L, seen, fr, tt, bs, x⟩ i back = V := ⟨_, rfl⟩
  rw [hV]
  have hbl := h1.lt
  have hE1 : V = if back = true ∧ i = 0 then (if bs % 2 = 1 then x else 0)
      else if back = true then (if oddB (L.getD (i - 1) default) = true then (L.getD (i - 1) default).e0 else (L.getD (i - 1) default).e1)
      else if i = L.length then (if bs % 2 = 1 then 0 else x)
      else (if oddB (L.getD i default) = true then (L.getD i default).e1 else (L.getD i default).e0) := by rw [← hV]; rfl
  have HV := Lib.hid hE1
  have hbb : bits .and .u8 (bs : Int) 1 = ((bs % 2 : Nat) : Int) := bits_level bs hbs
  obtain ⟨n, hLn⟩ : ∃ n, L.length = n := ⟨_, rfl⟩
  rw [hLn] at h1 hi hn
  have H1 := Lib.hid h1
  have H2 := Lib.hid h2
  have HLV := Lib.hid hlv
  have d0 := h1.cells.1
  have d4 := h1.cells.2.2.2.2.1
  have d5 := h1.cells.2.2.2.2.2
  clear hE1 hV h1 h2 h3 hlv
  go_enter Tryz.func41, Tryz.ntmps41
  cases back with
  | true =>
    by_cases h0 : i = 0
    · subst h0
      go_upto_region 3 with (fail)
      have hb1 : Below w.heap.size w (w.alloc (.cells #[.int .i64 0, .int .i64 x] 59)) := (Below.refl _ _).alloc (Nat.le_refl _) _
      have hx1 := World.alloc_heap_new w (.cells #[.int .i64 0, .int .i64 x] 59)
      have hL1 := H1.out.below hb1 hbl
      have hO1 := H2.out.keep hb1
      generalize w.alloc (.cells #[.int .i64 0, .int .i64 x] 59) = W1 at hb1 hx1 hL1 hO1 ⊢
      obtain ⟨B, hB⟩ : ∃ B, w.heap.size = B := ⟨_, rfl⟩
      have HB1 := Lib.hid hb1
      rw [hB] at hx1 ⊢
      clear d0 d4 d5
      have e0 : W1.cell? ⟨B, 0, none⟩ = some (.int .i64 0) := by simp [World.cell?, hx1]
      have e1 : W1.cell? ⟨B, 1, none⟩ = some (.int .i64 x) := by simp [World.cell?, hx1]
      have d4 := hL1.cells.2.2.2.2.1
      clear hx1 hb1 hL1 hO1
      rcases Nat.mod_two_eq_zero_or_one bs with h2 | h2
      · rw [h2] at hbb
        have hz : IntKind.u8.wrap (1 - ((0 : Nat) : Int)) = 1 := by decide
        have hv : V = 0 := by rw [HV.out]; simp [h2]
        have HV2 := Lib.hid hv
        clear hv HV
        go_wp2_with (fail)
        go_ret
        exact ⟨ret_i (by rw [HV2.out]), HB1.out⟩
      · rw [h2] at hbb
        have hz : IntKind.u8.wrap (1 - ((1 : Nat) : Int)) = 0 := by decide
        have hv : V = x := by rw [HV.out]; simp [h2]
        have HV2 := Lib.hid hv
        clear hv HV
        go_wp2_with (fail)
        go_ret
        exact ⟨ret_i (by rw [HV2.out]), HB1.out⟩
    · go_upto_region 5 with (fail)
      have hb1 : Below w.heap.size w (w.alloc (.cells #[.int .i64 0, .int .i64 x] 59)) := (Below.refl _ _).alloc (Nat.le_refl _) _
      have hx1 := World.alloc_heap_new w (.cells #[.int .i64 0, .int .i64 x] 59)
      have hL1 := H1.out.below hb1 hbl
      have hO1 := H2.out.keep hb1
      generalize w.alloc (.cells #[.int .i64 0, .int .i64 x] 59) = W1 at hb1 hx1 hL1 hO1 ⊢
      obtain ⟨B, hB⟩ : ∃ B, w.heap.size = B := ⟨_, rfl⟩
      have HB1 := Lib.hid hb1
      rw [hB] at hx1 ⊢
      clear d0 d4 d5
      obtain ⟨p, hp⟩ : ∃ p, L[i - 1]? = some p := ⟨_, List.getElem?_eq_getElem (by omega)⟩
      have hpg : L.getD (i - 1) default = p := by rw [List.getD_eq_getElem?_getD, hp]; rfl
      have hpl := HLV.out p (List.mem_of_getElem? hp)
      obtain ⟨G, eG, hGl, y0, y1, y2, y3, y4, y5, y6, y7, y8, y9⟩ := pc_cells hO1 (i - 1) p hp
      subst eG
      have d0 := hL1.cells.1
      have hwi : IntKind.i64.wrap ((i : Int) - 1) = ((i - 1 : Nat) : Int) := by rw [IntKind.wrap_i64]; omega
      have hi1 : ((i - 1 : Nat) : Int) < (n : Int) := by omega
      clear hx1 hb1 hL1 hO1 hp
      go_upto_region 6 with (fail)
      have hb2 : Below W1.heap.size W1 (W1.alloc (.cells #[.int .i64 p.a, .int .i64 p.size, .int .i64 p.c0, .int .i64 p.c1, .int .u8 p.level, .string p.became, .string p.shown, .int .i64 p.wide, .int .i64 p.e0, .int .i64 p.e1] 75)) := (Below.refl _ _).alloc (Nat.le_refl _) _
      have hx2 := World.alloc_heap_new W1 (.cells #[.int .i64 p.a, .int .i64 p.size, .int .i64 p.c0, .int .i64 p.c1, .int .u8 p.level, .string p.became, .string p.shown, .int .i64 p.wide, .int .i64 p.e0, .int .i64 p.e1] 75)
      generalize W1.alloc (.cells #[.int .i64 p.a, .int .i64 p.size, .int .i64 p.c0, .int .i64 p.c1, .int .u8 p.level, .string p.became, .string p.shown, .int .i64 p.wide, .int .i64 p.e0, .int .i64 p.e1] 75) = W2 at hb2 hx2 ⊢
      obtain ⟨P, hP⟩ : ∃ P, W1.heap.size = P := ⟨_, rfl⟩
      have HB2 := Lib.hid (HB1.out.trans (hb2.mono HB1.out.size))
      rw [hP] at hx2 ⊢
      have hOD := odd_any p hpl W2
      have hv : V = if p.level % 2 = 1 then p.e0 else p.e1 := by
        rw [HV.out, if_neg (by simp [h0]), if_pos rfl, hpg]
        unfold oddB
        simp
      have HX2 := Lib.hid hx2
      have hPs : P < W2.heap.size := (Array.getElem?_eq_some_iff.1 hx2).1
      have HV2 := Lib.hid hv
      clear y0 y1 y2 y3 y4 y5 y6 y7 y8 y9 d0 hb2 hv HV hpg
      have z0 : W2.cell? ⟨P, 0, none⟩ = some (.int .i64 p.a) := by simp [World.cell?, hx2]
      have z1 : W2.cell? ⟨P, 1, none⟩ = some (.int .i64 p.size) := by simp [World.cell?, hx2]
      have z2 : W2.cell? ⟨P, 2, none⟩ = some (.int .i64 p.c0) := by simp [World.cell?, hx2]
      have z3 : W2.cell? ⟨P, 3, none⟩ = some (.int .i64 p.c1) := by simp [World.cell?, hx2]
      have z4 : W2.cell? ⟨P, 4, none⟩ = some (.int .u8 p.level) := by simp [World.cell?, hx2]
      have z5 : W2.cell? ⟨P, 5, none⟩ = some (.string p.became) := by simp [World.cell?, hx2]
      have z6 : W2.cell? ⟨P, 6, none⟩ = some (.string p.shown) := by simp [World.cell?, hx2]
      have z7 : W2.cell? ⟨P, 7, none⟩ = some (.int .i64 p.wide) := by simp [World.cell?, hx2]
      have z8 : W2.cell? ⟨P, 8, none⟩ = some (.int .i64 p.e0) := by simp [World.cell?, hx2]
      have z9 : W2.cell? ⟨P, 9, none⟩ = some (.int .i64 p.e1) := by simp [World.cell?, hx2]
      have HK2 : Hid (∀ W, Below W2.heap.size W2 W → W.cell? ⟨P, 8, none⟩ = some (.int .i64 p.e0) ∧ W.cell? ⟨P, 9, none⟩ = some (.int .i64 p.e1)) := Lib.hid fun W hb => by
        have := (hb.block P hPs).trans HX2.out
        constructor <;> simp [World.cell?, this]
      clear hx2
      rcases Nat.mod_two_eq_zero_or_one p.level with h2 | h2
      · rw [h2] at hOD HV2
        have HOD := Lib.hid hOD
        have HV3 : Hid (V = p.e1) := Lib.hid (by rw [HV2.out]; simp)
        have hz : IntKind.i64.wrap (1 - ((0 : Nat) : Int)) = 1 := by decide
        clear hOD HV2
        go_wp2_with (go_at_call 53; refine HOD.out.mono ?_; rintro e w3 ⟨rfl, hb3⟩; obtain ⟨z8', z9'⟩ := HK2.out w3 hb3)
        go_ret
        exact ⟨ret_i (by rw [HV3.out]), HB2.out.trans (hb3.mono HB2.out.size)⟩
      · rw [h2] at hOD HV2
        have HOD := Lib.hid hOD
        have HV3 : Hid (V = p.e0) := Lib.hid (by rw [HV2.out]; simp)
        have hz : IntKind.i64.wrap (1 - ((1 : Nat) : Int)) = 0 := by decide
        clear hOD HV2
        go_wp2_with (go_at_call 53; refine HOD.out.mono ?_; rintro e w3 ⟨rfl, hb3⟩; obtain ⟨z8', z9'⟩ := HK2.out w3 hb3)
        go_ret
        exact ⟨ret_i (by rw [HV3.out]), HB2.out.trans (hb3.mono HB2.out.size)⟩
  | false =>
    by_cases hin : i = n
    · go_upto_region 8 with (fail)
      have hb1 : Below w.heap.size w (w.alloc (.cells #[.int .i64 0, .int .i64 x] 59)) := (Below.refl _ _).alloc (Nat.le_refl _) _
      have hx1 := World.alloc_heap_new w (.cells #[.int .i64 0, .int .i64 x] 59)
      have hL1 := H1.out.below hb1 hbl
      have hO1 := H2.out.keep hb1
      generalize w.alloc (.cells #[.int .i64 0, .int .i64 x] 59) = W1 at hb1 hx1 hL1 hO1 ⊢
      obtain ⟨B, hB⟩ : ∃ B, w.heap.size = B := ⟨_, rfl⟩
      have HB1 := Lib.hid hb1
      rw [hB] at hx1 ⊢
      clear d0 d4 d5
      have e0 : W1.cell? ⟨B, 0, none⟩ = some (.int .i64 0) := by simp [World.cell?, hx1]
      have e1 : W1.cell? ⟨B, 1, none⟩ = some (.int .i64 x) := by simp [World.cell?, hx1]
      have d4 := hL1.cells.2.2.2.2.1
      clear hx1 hb1 hL1 hO1
      rcases Nat.mod_two_eq_zero_or_one bs with h2 | h2
      · rw [h2] at hbb
        have hz : IntKind.u8.wrap (1 - ((0 : Nat) : Int)) = 1 := by decide
        have hv : V = x := by rw [HV.out]; simp [h2, hin, hLn]
        have HV2 := Lib.hid hv
        clear hv HV
        go_wp2_with (fail)
        go_ret
        exact ⟨ret_i (by rw [HV2.out]), HB1.out⟩
      · rw [h2] at hbb
        have hz : IntKind.u8.wrap (1 - ((1 : Nat) : Int)) = 0 := by decide
        have hv : V = 0 := by rw [HV.out]; simp [h2, hin, hLn]
        have HV2 := Lib.hid hv
        clear hv HV
        go_wp2_with (fail)
        go_ret
        exact ⟨ret_i (by rw [HV2.out]), HB1.out⟩
    · go_upto_region 9 with (fail)
      have hb1 : Below w.heap.size w (w.alloc (.cells #[.int .i64 0, .int .i64 x] 59)) := (Below.refl _ _).alloc (Nat.le_refl _) _
      have hx1 := World.alloc_heap_new w (.cells #[.int .i64 0, .int .i64 x] 59)
      have hL1 := H1.out.below hb1 hbl
      have hO1 := H2.out.keep hb1
      generalize w.alloc (.cells #[.int .i64 0, .int .i64 x] 59) = W1 at hb1 hx1 hL1 hO1 ⊢
      obtain ⟨B, hB⟩ : ∃ B, w.heap.size = B := ⟨_, rfl⟩
      have HB1 := Lib.hid hb1
      rw [hB] at hx1 ⊢
      clear d0 d4 d5
      obtain ⟨p, hp⟩ : ∃ p, L[i]? = some p := ⟨_, List.getElem?_eq_getElem (by omega)⟩
      have hpg : L.getD i default = p := by rw [List.getD_eq_getElem?_getD, hp]; rfl
      have hpl := HLV.out p (List.mem_of_getElem? hp)
      have hls := hL1.lt
      have hKC : ∀ W, Below W1.heap.size W1 W → ∃ G, la = some ⟨G, 0, none⟩ ∧ W.cell? ⟨G, i * 10, none⟩ = some (.int .i64 p.a) ∧ W.cell? ⟨G, i * 10 + 1, none⟩ = some (.int .i64 p.size) ∧ W.cell? ⟨G, i * 10 + 2, none⟩ = some (.int .i64 p.c0) ∧ W.cell? ⟨G, i * 10 + 3, none⟩ = some (.int .i64 p.c1) ∧
          W.cell? ⟨G, i * 10 + 4, none⟩ = some (.int .u8 p.level) ∧ W.cell? ⟨G, i * 10 + 5, none⟩ = some (.string p.became) ∧ W.cell? ⟨G, i * 10 + 6, none⟩ = some (.string p.shown) ∧ W.cell? ⟨G, i * 10 + 7, none⟩ = some (.int .i64 p.wide) ∧ W.cell? ⟨G, i * 10 + 8, none⟩ = some (.int .i64 p.e0) ∧ W.cell? ⟨G, i * 10 + 9, none⟩ = some (.int .i64 p.e1) ∧
          W.cell? ⟨b, 0, none⟩ = some (.slice la n lcap) := fun W hb => by
        obtain ⟨G, eG, _, y0, y1, y2, y3, y4, y5, y6, y7, y8, y9⟩ := pc_cells (hO1.keep hb) i p hp
        exact ⟨G, eG, y0, y1, y2, y3, y4, y5, y6, y7, y8, y9, (hL1.below hb hls).cells.1⟩
      obtain ⟨G, eG, _⟩ := hKC W1 (Below.refl _ _)
      subst eG
      have HKC : Hid (∀ W, Below W1.heap.size W1 W → W.cell? ⟨G, i * 10, none⟩ = some (.int .i64 p.a) ∧ W.cell? ⟨G, i * 10 + 1, none⟩ = some (.int .i64 p.size) ∧ W.cell? ⟨G, i * 10 + 2, none⟩ = some (.int .i64 p.c0) ∧ W.cell? ⟨G, i * 10 + 3, none⟩ = some (.int .i64 p.c1) ∧
          W.cell? ⟨G, i * 10 + 4, none⟩ = some (.int .u8 p.level) ∧ W.cell? ⟨G, i * 10 + 5, none⟩ = some (.string p.became) ∧ W.cell? ⟨G, i * 10 + 6, none⟩ = some (.string p.shown) ∧ W.cell? ⟨G, i * 10 + 7, none⟩ = some (.int .i64 p.wide) ∧ W.cell? ⟨G, i * 10 + 8, none⟩ = some (.int .i64 p.e0) ∧ W.cell? ⟨G, i * 10 + 9, none⟩ = some (.int .i64 p.e1) ∧
          W.cell? ⟨b, 0, none⟩ = some (.slice (some ⟨G, 0, none⟩) n lcap) ∧ Below W1.heap.size W1 W) := Lib.hid fun W hb => by
        obtain ⟨G', eG, y0, y1, y2, y3, y4, y5, y6, y7, y8, y9, y10⟩ := hKC W hb
        cases eG
        exact ⟨y0, y1, y2, y3, y4, y5, y6, y7, y8, y9, y10, hb⟩
      obtain ⟨y0, y1, y2, y3, y4, y5, y6, y7, y8, y9, y10, hbr⟩ := HKC.out W1 (Below.refl _ _)
      have hin1 : (i : Int) < (n : Int) := by omega
      have hv : V = if p.level % 2 = 1 then p.e1 else p.e0 := by
        rw [HV.out, if_neg (by simp), if_neg (by simp), if_neg (by rw [hLn]; exact hin), hpg]
        unfold oddB
        simp
      clear hx1 hb1 hL1 hO1 hp hKC hpg HV
      rcases Nat.mod_two_eq_zero_or_one p.level with h2 | h2
      · have HOD : Hid (∀ W, Below W1.heap.size W1 W → Calls Tryz.prog 53 #[.agg #[.int .i64 p.a, .int .i64 p.size, .int .i64 p.c0, .int .i64 p.c1, .int .u8 p.level, .string p.became, .string p.shown, .int .i64 p.wide, .int .i64 p.e0, .int .i64 p.e1]] W fun e w' => e = .returned (.int .i64 (0 : Int)) ∧ Below W1.heap.size W1 w') := Lib.hid fun W hb => (odd_any p hpl W).mono fun e w' ⟨h, hb'⟩ => ⟨by rw [h, h2]; rfl, hb.trans (hb'.mono hb.size)⟩
        have HV3 : Hid (V = p.e0) := Lib.hid (by rw [hv, h2]; simp)
        clear hv
        go_region_held3 (fun w' => w'.cell? ⟨G, i * 10, none⟩ = some (.int .i64 p.a) ∧ w'.cell? ⟨G, i * 10 + 1, none⟩ = some (.int .i64 p.size) ∧ w'.cell? ⟨G, i * 10 + 2, none⟩ = some (.int .i64 p.c0) ∧ w'.cell? ⟨G, i * 10 + 3, none⟩ = some (.int .i64 p.c1) ∧
            w'.cell? ⟨G, i * 10 + 4, none⟩ = some (.int .u8 p.level) ∧ w'.cell? ⟨G, i * 10 + 5, none⟩ = some (.string p.became) ∧ w'.cell? ⟨G, i * 10 + 6, none⟩ = some (.string p.shown) ∧ w'.cell? ⟨G, i * 10 + 7, none⟩ = some (.int .i64 p.wide) ∧ w'.cell? ⟨G, i * 10 + 8, none⟩ = some (.int .i64 p.e0) ∧ w'.cell? ⟨G, i * 10 + 9, none⟩ = some (.int .i64 p.e1) ∧
            w'.cell? ⟨b, 0, none⟩ = some (.slice (some ⟨G, 0, none⟩) n lcap) ∧ Below W1.heap.size W1 w')
          ((refine HKC.out _ ?_; (repeat (first | assumption | refine Below.drew ?_))))
          ((go_at_call 53; refine (HOD.out _ (by (repeat (first | assumption | refine Below.drew ?_)))).mono ?_; rintro e w3 ⟨rfl, hb3⟩))
        go_wp2_with (fail)
        go_ret
        exact ⟨ret_i (by rw [HV3.out]), HB1.out.trans (hb3.mono HB1.out.size)⟩
      · have HOD : Hid (∀ W, Below W1.heap.size W1 W → Calls Tryz.prog 53 #[.agg #[.int .i64 p.a, .int .i64 p.size, .int .i64 p.c0, .int .i64 p.c1, .int .u8 p.level, .string p.became, .string p.shown, .int .i64 p.wide, .int .i64 p.e0, .int .i64 p.e1]] W fun e w' => e = .returned (.int .i64 (1 : Int)) ∧ Below W1.heap.size W1 w') := Lib.hid fun W hb => (odd_any p hpl W).mono fun e w' ⟨h, hb'⟩ => ⟨by rw [h, h2]; rfl, hb.trans (hb'.mono hb.size)⟩
        have HV3 : Hid (V = p.e1) := Lib.hid (by rw [hv, h2]; simp)
        clear hv
        go_region_held3 (fun w' => w'.cell? ⟨G, i * 10, none⟩ = some (.int .i64 p.a) ∧ w'.cell? ⟨G, i * 10 + 1, none⟩ = some (.int .i64 p.size) ∧ w'.cell? ⟨G, i * 10 + 2, none⟩ = some (.int .i64 p.c0) ∧ w'.cell? ⟨G, i * 10 + 3, none⟩ = some (.int .i64 p.c1) ∧
            w'.cell? ⟨G, i * 10 + 4, none⟩ = some (.int .u8 p.level) ∧ w'.cell? ⟨G, i * 10 + 5, none⟩ = some (.string p.became) ∧ w'.cell? ⟨G, i * 10 + 6, none⟩ = some (.string p.shown) ∧ w'.cell? ⟨G, i * 10 + 7, none⟩ = some (.int .i64 p.wide) ∧ w'.cell? ⟨G, i * 10 + 8, none⟩ = some (.int .i64 p.e0) ∧ w'.cell? ⟨G, i * 10 + 9, none⟩ = some (.int .i64 p.e1) ∧
            w'.cell? ⟨b, 0, none⟩ = some (.slice (some ⟨G, 0, none⟩) n lcap) ∧ Below W1.heap.size W1 w')
          ((refine HKC.out _ ?_; (repeat (first | assumption | refine Below.drew ?_))))
          ((go_at_call 53; refine (HOD.out _ (by (repeat (first | assumption | refine Below.drew ?_)))).mono ?_; rintro e w3 ⟨rfl, hb3⟩))
        go_wp2_with (fail)
        go_ret
        exact ⟨ret_i (by rw [HV3.out]), HB1.out.trans (hb3.mono HB1.out.size)⟩
end
section
set_option linter.unusedVariables false
set_option linter.unusedSimpArgs false

/-- a stop: its place, whether it looks back, its edge -/
structure St where
  a : Nat
  back : Bool
  x : Int
deriving DecidableEq
instance : Inhabited St := ⟨⟨0, false, 0⟩⟩
def hasA (W : LaidR) (cut : Bool) (p : Nat) : Bool := decide (p < W.tt) || !cut || decide (W.fr = W.tt)
def hasB (W : LaidR) (cut : Bool) (i p : Nat) : Bool := decide (W.fr < p) && (decide (edgeI W i false ≠ edgeI W i true) || (cut && decide (p = W.tt)))
def stopAt (W : LaidR) (cut : Bool) (i p : Nat) : List St :=
  (if hasA W cut p = true then [⟨p, false, edgeI W i false⟩] else []) ++ (if hasB W cut i p = true then [⟨p, true, edgeI W i true⟩] else [])
def stopsF (W : LaidR) (cut : Bool) : List Pc → Nat → List St
  | [], i => stopAt W cut i W.tt
  | p :: t, i => stopAt W cut i p.a ++ stopsF W cut t (i + 1)
def cutB (fin : Int) : Bool := decide (fin = 2) || decide (fin = 3)
/-- two neighbours change places -/
def swapL (l : List St) (j : Nat) : List St := (l.set (j + 1) (l.getD j default)).set j (l.getD (j + 1) default)
/-- one stop goes to its place -/
def insJ (l : List St) : Nat → List St
  | 0 => l
  | j + 1 => if (l.getD (j + 1) default).x < (l.getD j default).x then insJ (swapL l j) j else l
def sortJ : Nat → Nat → List St → List St
  | 0, _, l => l
  | m + 1, i, l => sortJ m (i + 1) (insJ l i)
def rawS (W : LaidR) (fin : Int) : List St := stopsF W (cutB fin) W.l 0
def stopsI (W : LaidR) (fin : Int) : List St := sortJ ((rawS W fin).length - 1) 1 (rawS W fin)
/-- the stop that is hit -/
def gapI (a b : Int) : Int := max (a - b) (b - a)
def bestF (x : Int) : List St → St → St
  | [], b => b
  | s :: t, b => bestF x t (if gapI s.x x < gapI b.x x then s else b)
def hitI (W : LaidR) (fin x : Int) : St := bestF (min (max x 0) W.wide) (stopsI W fin) ((stopsI W fin).getD 0 default)

theorem swapL_len (l : List St) (j : Nat) : (swapL l j).length = l.length := by unfold swapL; rw [List.length_set, List.length_set]
theorem insJ_len : ∀ (j : Nat) (l : List St), (insJ l j).length = l.length
  | 0, _ => rfl
  | j + 1, l => by
    rw [insJ]
    split
    · rw [insJ_len j, swapL_len]
    · rfl
theorem sortJ_len : ∀ (m i : Nat) (l : List St), (sortJ m i l).length = l.length
  | 0, _, _ => rfl
  | m + 1, i, l => by rw [sortJ, sortJ_len m, insJ_len]
theorem stopAt_len (W : LaidR) (cut : Bool) (i p : Nat) : (stopAt W cut i p).length ≤ 2 := by
  unfold stopAt
  rw [List.length_append]
  split <;> split <;> simp
theorem stopsF_len (W : LaidR) (cut : Bool) : ∀ (L : List Pc) (i : Nat), (stopsF W cut L i).length ≤ 2 * L.length + 2
  | [], i => by rw [stopsF]; exact stopAt_len W cut i W.tt
  | p :: t, i => by
    rw [stopsF, List.length_append, List.length_cons]
    have h1 := stopAt_len W cut i p.a
    have h2 := stopsF_len W cut t (i + 1)
    omega
end
section
set_option linter.unusedVariables false
set_option linter.unusedSimpArgs false
open Go.RowKit Go.Proofs Go.Shelf
attribute [local go_sem] Oper.semAt_some

/-- how a stop lies -/
def stE : Enc St := ⟨fun c => [.int .i64 c.a, .bool c.back, .int .i64 (-1), .int .i64 c.x], 4, fun _ => rfl⟩
theorem Tryz.info_stop : (Tryz.prog.info? 86).map (fun i => (i.zero, i.size, i.bytes)) = some (some (.agg #[.int .i64 0, .bool false, .int .i64 0, .int .i64 0]), 4, 32) := by kernel_rfl
/-- what stands while stops are told: the row's box, the list, whether the row is cut -/
structure AdS (w : World) (S0 b : Nat) (cut : Bool) (M : List St) (W : World) : Prop where
  bw : W.heap[S0]? = some (.cells #[.pointer (some ⟨b, 0, none⟩)] 69 (0, 0))
  bc : W.heap[S0 + 2]? = some (.cells #[.bool cut] 4 (0, 0))
  row : ∃ a c, W.heap[S0 + 1]? = some (.cells #[.slice a M.length c] 83 (0, 0)) ∧ OwnS stE 86 W (S0 + 3) (.slice a M.length c) M
  bel : Below S0 w W
section
variable {w W W' : World} {S0 b : Nat} {cut : Bool} {M : List St}
theorem AdS.below (h : AdS w S0 b cut M W) (hb : Below W.heap.size W W') : AdS w S0 b cut M W' := by
  have h0 := (Array.getElem?_eq_some_iff.1 h.bw).1
  have h2 := (Array.getElem?_eq_some_iff.1 h.bc).1
  obtain ⟨a, c, h3, h4⟩ := h.row
  exact ⟨(hb.block _ h0).trans h.bw, (hb.block _ h2).trans h.bc, ⟨a, c, (hb.block _ (by omega)).trans h3, h4.keep hb⟩, h.bel.trans (hb.mono (by omega))⟩
theorem AdS.drew (h : AdS w S0 b cut M W) : AdS w S0 b cut M W.drew := ⟨h.bw, h.bc, h.row, h.bel.drew⟩
theorem AdS.drewN (h : AdS w S0 b cut M W) (n : Nat) : AdS w S0 b cut M (W.drewN n) := ⟨h.bw, h.bc, h.row, bl_drewN h.bel n⟩
end
theorem AdS.app {w W : World} {S0 b : Nat} {cut : Bool} {M : List St} (h : AdS w S0 b cut M W) {a : Option Addr} {c : Nat} (hr : W.heap[S0 + 1]? = some (.cells #[.slice a M.length c] 83 (0, 0))) (ho : OwnS stE 86 W (S0 + 3) (.slice a M.length c) M)
    (st : St) {o : Obj} {v' : Value} {w8 : World} (hg : (W.alloc o).grownBy w8 (Value.slice a M.length c).ownBlock) (ho8 : w8.ownsRow (S0 + 3) 86 4 v' (M.length + 1) (M.flatMap stE.enc ++ stE.enc st)) :
    w8.heap[S0 + 1]? = some (.cells #[.slice a M.length c] 83 (0, 0)) ∧ AdS w S0 b cut (M ++ [st]) (w8.setCell ⟨S0 + 1, 0, none⟩ v') := by
  have hol := World.ownsRow.lt ho
  have h0 := (Array.getElem?_eq_some_iff.1 h.bw).1
  have h2 := (Array.getElem?_eq_some_iff.1 h.bc).1
  have hsz : (W.alloc o).heap.size = W.heap.size + 1 := by rw [World.size_alloc]
  have hba : Below W.heap.size W (W.alloc o) := (Below.refl _ _).alloc (Nat.le_refl _) o
  have key : ∀ k, k < S0 + 3 → k < W.heap.size → w8.heap[k]? = W.heap[k]? := fun k hk hl =>
    (hg.block k (by omega) (fun e => by have := (hol k e.symm).1; omega)).trans (hba.block k hl)
  obtain ⟨a', c', hv', _, _⟩ := own_slice ho8
  subst hv'
  have r8 := (key (S0 + 1) (by omega) (by omega)).trans hr
  refine ⟨r8, ⟨box_other ((key S0 (by omega) h0).trans h.bw) (by omega), box_other ((key (S0 + 2) (by omega) h2).trans h.bc) (by omega), ⟨a', c', ?_, ?_⟩, ?_⟩⟩
  · have h1 := set_at (i := 0) r8 (.slice a' (M.length + 1) c')
    rw [List.length_append]
    exact h1
  · have h1 : OwnS stE 86 w8 (S0 + 3) (.slice a' (M ++ [st]).length c') (M ++ [st]) := by
      unfold OwnS
      rw [List.length_append, List.flatMap_append, List.flatMap_singleton]
      exact ho8
    exact h1.other (fun g hg => by have := (World.ownsRow.lt h1 g hg).1; omega)
  · exact ((h.bel.alloc (by omega) o).grown hg (by omega) (fun k hk => by have := (hol k hk).1; omega)).setCell (p := ⟨S0 + 1, 0, none⟩) (show S0 ≤ S0 + 1 by omega) _
set_option maxRecDepth 100000 in
set_option maxHeartbeats 2000000 in
theorem add_any (w : World) (S0 b : Nat) (R : LaidR) (cut : Bool) (M : List St) (i p : Nat) (hS0 : w.heap.size = S0) (hL : LaidW w b R) (hi : i ≤ R.l.length) (hbs : R.base < 256) (hlv : ∀ p ∈ R.l, p.level < 256) (hn : R.l.length ≤ 2097152) (hM : M.length ≤ 8388608) (W : World) (h : AdS w S0 b cut M W) :
    Calls Tryz.prog 67 #[.int .i64 i, .int .i64 p, .pointer (some ⟨S0, 0, none⟩), .pointer (some ⟨S0 + 2, 0, none⟩), .pointer (some ⟨S0 + 1, 0, none⟩)] W fun e w' => e = .returned (.tuple #[]) ∧ AdS w S0 b cut (M ++ stopAt R cut i p) w' := by
  obtain ⟨i5, hi5, hz5, ha5, hby5⟩ := info_parts (Tryz.info_stop)
  obtain ⟨x, hx⟩ : ∃ x, edgeI R i false = x := ⟨_, rfl⟩
  obtain ⟨y, hy⟩ : ∃ y, edgeI R i true = y := ⟨_, rfl⟩
  have HLD : Hid (∀ W, AdS w S0 b cut M W → LaidW W b R) := Lib.hid fun W h => hL.below (hS0 ▸ h.bel)
  have HE : Hid (∀ W k, AdS w S0 b cut M W → Calls Tryz.prog 41 #[.pointer (some ⟨b, 0, none⟩), .int .i64 i, .bool k] W fun e w' => e = .returned (.int .i64 (edgeI R i k)) ∧ AdS w S0 b cut M w') :=
    Lib.hid fun W k h => (rEdge_any b R i k W (hL.below (hS0 ▸ h.bel)) hi hbs hlv hn).mono fun e w' ⟨h1, h2⟩ => ⟨h1, h.below h2⟩
  have HEF : Hid (∀ W, AdS w S0 b cut M W → Calls Tryz.prog 41 #[.pointer (some ⟨b, 0, none⟩), .int .i64 i, .bool false] W fun e w' => e = .returned (.int .i64 x) ∧ AdS w S0 b cut M w') := Lib.hid fun W h => hx ▸ HE.out W false h
  have HET : Hid (∀ W, AdS w S0 b cut M W → Calls Tryz.prog 41 #[.pointer (some ⟨b, 0, none⟩), .int .i64 i, .bool true] W fun e w' => e = .returned (.int .i64 y) ∧ AdS w S0 b cut M w') := Lib.hid fun W h => hy ▸ HE.out W true h
  have hst : stopAt R cut i p = (if hasA R cut p = true then [⟨p, false, x⟩] else []) ++ (if (decide (R.fr < p) && (decide (x ≠ y) || (cut && decide (p = R.tt)))) = true then [⟨p, true, y⟩] else []) := by
    unfold stopAt hasB
    rw [hx, hy]
  have HST := Lib.hid hst
  have HKB : Hid (∀ W, AdS w S0 b cut M W → W.cell? ⟨S0, 0, none⟩ = some (.pointer (some ⟨b, 0, none⟩)) ∧ AdS w S0 b cut M W) := Lib.hid fun W h => ⟨by simp [World.cell?, h.bw], h⟩
  clear hst HE hx hy
  have HW := Lib.hid h
  obtain ⟨k0, hW⟩ := HKB.out W h
  clear h
  go_enter Tryz.func67, Tryz.ntmps67
  go_upto_region 0 with (fail)
  obtain ⟨S, hSi, hSo⟩ : ∃ S : World → Prop, (∀ W : World, W.cell? ⟨S0, 0, none⟩ = some (.pointer (some ⟨b, 0, none⟩)) → S W) ∧ (∀ W : World, S W → W.cell? ⟨S0, 0, none⟩ = some (.pointer (some ⟨b, 0, none⟩))) := ⟨fun W => W.cell? ⟨S0, 0, none⟩ = some (.pointer (some ⟨b, 0, none⟩)), fun _ h => h, fun _ h => h⟩
  have HSi := Lib.hid hSi
  have hne : Nonempty (WIn S) := ⟨⟨_, hSi _ k0⟩⟩
  have kp_0 : ∀ q : WIn S, q.w.cell? ⟨S0, 0, none⟩ = some (.pointer (some ⟨b, 0, none⟩)) := fun q => hSo _ q.h
  clear hSi hSo
  refine wp_region_segP S [([0, 1, 3, 4], 2), ([], 5)] [6, 7] (by kernel_rfl) (by kernel_rfl) (HSi.out _ k0) ?_
  simp only [segHP, opsAt, List.filterMap_cons, List.filterMap_nil, List.getElem?_toArray, List.getElem?_cons_zero, List.getElem?_cons_succ]
  show wpQuiet _ _ _ _ [_, _, _, _] _
  repeat (go_big_quiet_step (fail))
  refine wpQuiet_nil ?_
  intro K hK
  have HKK := Lib.hid hK
  have HC1 := Lib.hid (HEF.out W.drew hW.drew)
  clear hK
  show wpList _ _ _ [_] _ _
  go_wp2_with (go_at_call 41; refine HC1.out.mono ?_; rintro e w5 ⟨rfl, hS5⟩)
  have k5 := (HKB.out w5 hS5).1
  have HC2 := Lib.hid (HET.out w5 hS5)
  refine HKK.out _ _ (HSi.out _ k5) ?_
  clear HKK HC1 hS5
  show wpQuiet _ _ _ _ [] _
  refine wpQuiet_nil ?_
  intro K hK
  have HKK := Lib.hid hK
  clear hK
  show wpList _ _ _ [_] _ _
  go_wp2_with (go_at_call 41; refine HC2.out.mono ?_; rintro e w6 ⟨rfl, hS6⟩)
  have k6 := (HKB.out w6 hS6).1
  have HS6 := Lib.hid hS6
  refine HKK.out _ _ (HSi.out _ k6) ?_
  clear HKK HC2 hS6 HSi
  show wpQuiet _ _ _ _ [_, _] _
  repeat (go_big_quiet_step (fail))
  refine wpQuiet_nil ?_
  refine NoPanic.normal ?_
  clear kp_0 hne k5 k6 k0 hW HW HEF HET HKB
  obtain ⟨u, hu⟩ : ∃ u, hasA R cut p = u := ⟨_, rfl⟩
  obtain ⟨v, hv⟩ : ∃ v, (decide (R.fr < p) && (decide (x ≠ y) || (cut && decide (p = R.tt)))) = v := ⟨_, rfl⟩
  rw [hu, hv] at HST
  go_upto_region 1 with (fail)
  go_cut [35] (fun c wx => c = .bool u ∧ AdS w S0 b cut M wx)
  case first =>
    obtain ⟨la, lcap, va, vc, g1, _, _⟩ := HLD.out w6 HS6.out
    have d2 := g1.cells.2.2.1
    have d3 := g1.cells.2.2.2.1
    have k0 : w6.cell? ⟨S0, 0, none⟩ = some (.pointer (some ⟨b, 0, none⟩)) := by simp [World.cell?, HS6.out.bw]
    have k2 : w6.cell? ⟨S0 + 2, 0, none⟩ = some (.bool cut) := by simp [World.cell?, HS6.out.bc]
    clear g1
    by_cases h1 : p < R.tt
    · have hd1 : decide ((p : Int) < (R.tt : Int)) = true := decide_eq_true (by omega)
      have hu1 : u = true := by rw [← hu]; unfold hasA; rw [decide_eq_true h1]; rfl
      subst hu1
      go_quiet (fail)
      go_wp2_with (fail)
      go_meet
      exact ⟨rfl, HS6.out.drewN _⟩
    · have hd1 : decide ((p : Int) < (R.tt : Int)) = false := decide_eq_false (by omega)
      cases cut with
      | false =>
        have hu1 : u = true := by rw [← hu]; unfold hasA; simp
        subst hu1
        go_quiet (fail)
        go_wp2_with (fail)
        go_meet
        exact ⟨rfl, HS6.out.drewN _⟩
      | true =>
        by_cases h3 : R.fr = R.tt
        · have hd3 : ((R.fr : Int) == (R.tt : Int)) = true := by rw [beq_iff_eq]; omega
          have hu1 : u = true := by rw [← hu]; unfold hasA; rw [decide_eq_true h3]; simp
          subst hu1
          go_quiet (fail)
          go_wp2_with (fail)
          go_meet
          exact ⟨rfl, HS6.out.drewN _⟩
        · have hd3 : ((R.fr : Int) == (R.tt : Int)) = false := by rw [beq_eq_false_iff_ne]; omega
          have hu1 : u = false := by rw [← hu]; unfold hasA; rw [decide_eq_false h3, decide_eq_false h1]; rfl
          subst hu1
          go_quiet (fail)
          go_wp2_with (fail)
          go_meet
          exact ⟨rfl, HS6.out.drewN _⟩
  case rest =>
    obtain ⟨rfl, hS7⟩ := hcut
    have HS7 := Lib.hid hS7
    have HU := Lib.hid hu
    have HV := Lib.hid hv
    clear hS7 HS6 hu hv
    obtain ⟨M1, hM1⟩ : ∃ M1, M ++ (if u = true then [(⟨p, false, x⟩ : St)] else []) = M1 := ⟨_, rfl⟩
    have hM1l : M1.length ≤ 8388609 := by rw [← hM1, List.length_append]; split <;> simp <;> omega
    go_upto_if 35 with (fail)
    go_cut [35] (fun _ wx => AdS w S0 b cut M1 wx)
    case first =>
      cases u with
      | true =>
        obtain ⟨a, c, r1, r2⟩ := HS7.out.row
        have k1 : wc.cell? ⟨S0 + 1, 0, none⟩ = some (.slice a M.length c) := by simp [World.cell?, r1]
        have hsz : S0 + 1 < wc.heap.size := (Array.getElem?_eq_some_iff.1 r1).1
        have R1 := Lib.hid r1
        have R2 := Lib.hid r2
        have hal := World.ownsRow.alloc r2 (.cells #[.int .i64 p, .bool false, .int .i64 (-1), .int .i64 x] 86)
        have HAL := Lib.hid hal
        have hbz : S0 + 3 ≤ wc.heap.size := by have := (Array.getElem?_eq_some_iff.1 HS7.out.bc).1; omega
        clear r1 r2 hal
        go_wp2_with (at_builtin; refine wpList_append_own_at _ rfl _ _ 83 rfl (S0 + 3) 86 i5 _ 4 32 Tryz.underlying83 hi5 hz5 ha5 hby5 rfl (by decide) _ M.length _ rfl HAL.out ⟨wc.heap.size, 0, none⟩ 1 1 [.int .i64 p, .bool false, .int .i64 (-1), .int .i64 x] rfl rfl (newS _ _ _) (by simp [Value.oneCell']) (by unfold maxLen; omega) (by omega) (by simp; omega) ?_; intro v' w8 ho8 hg8 _ _; obtain ⟨a', c', hv', _, _⟩ := own_slice ho8; subst hv'; obtain ⟨q1, hS8⟩ := HS7.out.app R1.out R2.out ⟨p, false, x⟩ hg8 ho8; have HS8 := Lib.hid hS8; have q0 : w8.cell? ⟨S0 + 1, 0, none⟩ = some (.slice a M.length c) := (by simp [World.cell?, q1]); have qf : w8.frozen? ⟨S0 + 1, 0, none⟩ = false := (by simp [World.frozen?, q1]); clear hS8 q1)
        go_meet
        rw [← hM1, if_pos trivial]
        exact HS8.out
      | false =>
        go_wp2_with (fail)
        go_meet
        rw [← hM1, if_neg (by decide), List.append_nil]
        exact HS7.out
    case rest =>
      have HS9 := Lib.hid hcut
      clear hcut HS7
      have HST2 : Hid (M ++ stopAt R cut i p = M1 ++ (if v = true then [(⟨p, true, y⟩ : St)] else [])) := Lib.hid (by rw [HST.out, ← hM1, List.append_assoc])
      clear hM1
      have HLD2 : LaidW wc b R := hL.below (hS0 ▸ HS9.out.bel)
      go_upto_region 3 with (fail)
      go_cut [64] (fun c wx => c = .bool v ∧ AdS w S0 b cut M1 wx)
      case first =>
        obtain ⟨la, lcap, va, vc, g1, _, _⟩ := HLD2
        have d2 := g1.cells.2.2.1
        have d3 := g1.cells.2.2.2.1
        have k0 : wc.cell? ⟨S0, 0, none⟩ = some (.pointer (some ⟨b, 0, none⟩)) := by simp [World.cell?, HS9.out.bw]
        have k2 : wc.cell? ⟨S0 + 2, 0, none⟩ = some (.bool cut) := by simp [World.cell?, HS9.out.bc]
        clear g1
        by_cases h1 : R.fr < p
        · have hd1 : decide ((R.fr : Int) < (p : Int)) = true := decide_eq_true (by omega)
          by_cases h2 : x = y
          · have hd2 : (x != y) = false := by simp [h2]
            have hd2' : (y != y) = false := by simp
            cases cut with
            | false =>
              have hv1 : v = false := by rw [← HV.out]; simp [h2]
              subst hv1
              subst h2
              go_wp2_with (fail)
              go_meet
              exact ⟨rfl, HS9.out⟩
            | true =>
              by_cases h3 : p = R.tt
              · have hd3 : ((p : Int) == (R.tt : Int)) = true := by rw [beq_iff_eq]; omega
                have hv1 : v = true := by rw [← HV.out]; simp [h1, h3]; omega
                clear h3
                subst hv1
                subst h2
                go_wp2_with (fail)
                go_meet
                exact ⟨rfl, HS9.out⟩
              · have hd3 : ((p : Int) == (R.tt : Int)) = false := by rw [beq_eq_false_iff_ne]; omega
                have hv1 : v = false := by rw [← HV.out]; simp [h2, h3]
                subst hv1
                subst h2
                go_wp2_with (fail)
                go_meet
                exact ⟨rfl, HS9.out⟩
          · have hd2 : (x != y) = true := by simp [h2]
            have hv1 : v = true := by rw [← HV.out]; simp [h1, h2]
            subst hv1
            go_wp2_with (fail)
            go_meet
            exact ⟨rfl, HS9.out⟩
        · have hd1 : decide ((R.fr : Int) < (p : Int)) = false := decide_eq_false (by omega)
          have hv1 : v = false := by rw [← HV.out]; simp [h1]
          subst hv1
          go_wp2_with (fail)
          go_meet
          exact ⟨rfl, HS9.out⟩
      case rest =>
        obtain ⟨rfl, hS7⟩ := hcut
        have HS7 := Lib.hid hS7
        clear hS7 HLD2 HS9 HV HU
        cases v with
        | true =>
          obtain ⟨a, c, r1, r2⟩ := HS7.out.row
          have k1 : wc.cell? ⟨S0 + 1, 0, none⟩ = some (.slice a M1.length c) := by simp [World.cell?, r1]
          have hsz : S0 + 1 < wc.heap.size := (Array.getElem?_eq_some_iff.1 r1).1
          have R1 := Lib.hid r1
          have R2 := Lib.hid r2
          have hal := World.ownsRow.alloc r2 (.cells #[.int .i64 p, .bool true, .int .i64 (-1), .int .i64 y] 86)
          have HAL := Lib.hid hal
          have hbz : S0 + 3 ≤ wc.heap.size := by have := (Array.getElem?_eq_some_iff.1 HS7.out.bc).1; omega
          clear r1 r2 hal
          go_wp2_with (at_builtin; refine wpList_append_own_at _ rfl _ _ 83 rfl (S0 + 3) 86 i5 _ 4 32 Tryz.underlying83 hi5 hz5 ha5 hby5 rfl (by decide) _ M1.length _ rfl HAL.out ⟨wc.heap.size, 0, none⟩ 1 1 [.int .i64 p, .bool true, .int .i64 (-1), .int .i64 y] rfl rfl (newS _ _ _) (by simp [Value.oneCell']) (by unfold maxLen; omega) (by omega) (by simp; omega) ?_; intro v' w8 ho8 hg8 _ _; obtain ⟨a', c', hv', _, _⟩ := own_slice ho8; subst hv'; obtain ⟨q1, hS8⟩ := HS7.out.app R1.out R2.out ⟨p, true, y⟩ hg8 ho8; have HS8 := Lib.hid hS8; have q0 : w8.cell? ⟨S0 + 1, 0, none⟩ = some (.slice a M1.length c) := (by simp [World.cell?, q1]); have qf : w8.frozen? ⟨S0 + 1, 0, none⟩ = false := (by simp [World.frozen?, q1]); clear hS8 q1)
          go_end0
          exact ⟨rfl, by rw [HST2.out, if_pos trivial]; exact HS8.out⟩
        | false =>
          go_wp2_with (fail)
          go_end0
          exact ⟨rfl, by rw [HST2.out, if_neg (by decide), List.append_nil]; exact HS7.out⟩
end
end Go.Proofs.YtlbclfmbejjneaaGreatDoor
