/- Contracts of visual up to visual.Levels. -/
import Derived.Test.YtlbclfmbejjneaaGreatDoorV5
import Derived.Test.YtlbclfmbejjneaaGreatDoorV3
import Derived.Test.YtlbclfmbejjneaaGreatDoorV1
import Derived.Test.YtlbclfmbejjneaaGreatDoorV4
import Derived.Test.YtlbclfmbejjneaaGreatDoorV2
import Derived.Deep.RegionLaw
namespace Go.Proofs.YtlbclfmbejjneaaGreatDoor
section
set_option linter.unusedVariables false
set_option linter.unusedSimpArgs false
open Go.RowKit

theorem insP_perm (p : Nat × Nat) : ∀ l : List (Nat × Nat), (insP p l).Perm (p :: l)
  | [] => List.Perm.refl _
  | q :: t => by
    rw [insP]
    split
    · exact List.Perm.refl _
    · exact ((insP_perm p t).cons q).trans (List.Perm.swap p q t)
theorem insP_sorted (p : Nat × Nat) : ∀ l : List (Nat × Nat), l.Pairwise (fun a b => a.1 ≤ b.1) → (insP p l).Pairwise (fun a b => a.1 ≤ b.1)
  | [], _ => List.pairwise_singleton _ _
  | q :: t, h => by
    rw [insP]
    rw [List.pairwise_cons] at h
    split
    · next hlt =>
      refine List.pairwise_cons.2 ⟨fun x hx => ?_, List.pairwise_cons.2 h⟩
      rw [List.mem_cons] at hx
      rcases hx with rfl | hx
      · omega
      · have := h.1 x hx; omega
    · next hge =>
      refine List.pairwise_cons.2 ⟨fun x hx => ?_, insP_sorted p t h.2⟩
      have := (insP_perm p t).mem_iff.1 hx
      rw [List.mem_cons] at this
      rcases this with rfl | hx
      · omega
      · exact h.1 x hx
theorem foldl_perm : ∀ (l s : List (Nat × Nat)), (l.foldl (fun s p => insP p s) s).Perm (l ++ s)
  | [], s => List.Perm.refl _
  | p :: l, s => by
    rw [List.foldl_cons]
    refine (foldl_perm l _).trans ?_
    rw [List.cons_append]
    exact (List.Perm.append_left l (insP_perm p s)).trans List.perm_middle
theorem foldl_sorted : ∀ (l s : List (Nat × Nat)), s.Pairwise (fun a b => a.1 ≤ b.1) → (l.foldl (fun s p => insP p s) s).Pairwise (fun a b => a.1 ≤ b.1)
  | [], s, h => h
  | p :: l, s, h => by rw [List.foldl_cons]; exact foldl_sorted l _ (insP_sorted p s h)
theorem sortP_perm (l : List (Nat × Nat)) : (sortP l).Perm l := by
  have := foldl_perm l []
  rw [List.append_nil] at this
  exact this
theorem sortP_sorted (l : List (Nat × Nat)) : (sortP l).Pairwise (fun a b => a.1 ≤ b.1) := foldl_sorted l [] List.Pairwise.nil
theorem brk_one {rs ks : List Int} {n : Nat} {l1 l2 : List (Nat × Nat)} (h1 : l1.Perm (brkF rs ks n 0 [] [])) (h2 : l2.Perm (brkF rs ks n 0 [] [])) (s1 : l1.Pairwise (fun a b => a.1 ≤ b.1)) (s2 : l2.Pairwise (fun a b => a.1 ≤ b.1)) : l1 = l2 := by
  have a1 := ((brkF_all rs ks n).perm h1).apart
  have a2 := ((brkF_all rs ks n).perm h2).apart
  have t1 : l1.Pairwise (fun a b => a.1 < b.1) := (s1.and a1).imp (fun {a b} h => by have h1 := h.1; have h2 := h.2.1; omega)
  have t2 : l2.Pairwise (fun a b => a.1 < b.1) := (s2.and a2).imp (fun {a b} h => by have h1 := h.1; have h2 := h.2.1; omega)
  exact List.Perm.eq_of_pairwise (fun a b _ _ h1 h2 => absurd h1 (by omega)) t1 t2 (h1.trans h2.symm)
theorem resI_of {rs ks : List Int} {level sos eos : Int} {l : List (Nat × Nat)} (h : l.Perm (brkF (rs.take (min rs.length ks.length)) (alF (min rs.length ks.length) 0 (ks.take (min rs.length ks.length))) (min rs.length ks.length) 0 [] []))
    (hs : l.Pairwise (fun a b => a.1 ≤ b.1)) : resolveF rs ks level sos eos l = resI rs ks level sos eos := by
  unfold resI
  rw [brk_one h (sortP_perm _) hs (sortP_sorted _)]

theorem vleft_any (d : Int) (w : World) : Calls Tryz.prog 105 #[.int .i8 d] w fun e w' => e = .returned (.bool (leftB d)) ∧ w = w' := by
  go_enter Tryz.func105, Tryz.ntmps105
  go_wp2
  all_goals (go_ret; refine ⟨ret_b ?_, rfl⟩; unfold leftB; rw [Bool.eq_iff_iff]; simp; try omega)
theorem upI_le (x : Nat) (k : Int) : upI x k ≤ 2 := by
  unfold upI
  split
  · omega
  · split <;> omega
set_option maxRecDepth 100000 in
set_option maxHeartbeats 400000 in
theorem up_any (x : Nat) (k : Int) (w : World) (hx : x ≤ 125) : Calls Tryz.prog 132 #[.int .u8 x, .int .i8 k] w fun e w' => e = .returned (.int .u8 (upI x k : Nat)) ∧ w = w' := by
  have hU : upI x k = if k = 3 ∨ k = 6 then 2 - x % 2 else if (k = 1 ∧ x % 2 = 0) ∨ (k = 0 ∧ x % 2 = 1) then 1 else 0 := rfl
  have HU := Lib.hid hU
  obtain ⟨h, hh⟩ : ∃ h, x % 2 = h := ⟨_, rfl⟩
  rw [hh] at HU
  have hh1 : h = 0 ∨ h = 1 := by omega
  have hxi : (x : Int) % 2 = (h : Int) := by omega
  clear hU hh
  go_enter Tryz.func132, Tryz.ntmps132
  by_cases k3 : k = 3
  · subst k3
    rcases hh1 with rfl | rfl
    · go_wp2_with (fail)
      go_ret
      exact ⟨ret_i (by rw [HU.out]; rfl), rfl⟩
    · go_wp2_with (fail)
      go_ret
      exact ⟨ret_i (by rw [HU.out]; rfl), rfl⟩
  · by_cases k6 : k = 6
    · subst k6
      rcases hh1 with rfl | rfl
      · go_wp2_with (fail)
        go_ret
        exact ⟨ret_i (by rw [HU.out]; rfl), rfl⟩
      · go_wp2_with (fail)
        go_ret
        exact ⟨ret_i (by rw [HU.out]; rfl), rfl⟩
    · have e1 := HU.out
      rw [if_neg (by omega)] at e1
      have HE := Lib.hid e1
      have c3 : (k == 3) = false := by simpa using k3
      have c6 : (k == 6) = false := by simpa using k6
      clear e1
      by_cases k1 : k = 1
      · subst k1
        rcases hh1 with rfl | rfl
        · go_wp2_with (fail)
          go_ret
          exact ⟨ret_i (by rw [HE.out]; rfl), rfl⟩
        · go_wp2_with (fail)
          go_ret
          exact ⟨ret_i (by rw [HE.out]; rfl), rfl⟩
      · have c1 : (k == 1) = false := by simpa using k1
        by_cases k0 : k = 0
        · subst k0
          rcases hh1 with rfl | rfl
          · go_wp2_with (fail)
            go_ret
            exact ⟨ret_i (by rw [HE.out]; rfl), rfl⟩
          · go_wp2_with (fail)
            go_ret
            exact ⟨ret_i (by rw [HE.out]; rfl), rfl⟩
        · have c0 : (k == 0) = false := by simpa using k0
          clear k3 k6
          go_wp2_with (fail)
          go_ret
          exact ⟨ret_i (by rw [HE.out, if_neg (by omega)]; rfl), rfl⟩
/-- the first place of v from i on, m places being looked at; -1: none -/
def idxF (ds : List Int) (v : Int) : Nat → Nat → Int
  | 0, _ => -1
  | m + 1, i => if ith ds i = v then i else idxF ds v m (i + 1)
set_option maxRecDepth 100000 in
set_option maxHeartbeats 400000 in
theorem Ix8_any (a : Option Addr) (ds : List Int) (n c : Nat) (v : Int) (w : World) (hl : ds.length = n) (hd : Rd .i8 w a ds) (hn : n ≤ 2097152) :
    Calls Tryz.prog 102 #[.slice a n c, .int .i8 v] w fun e w' => e = .returned (.int .i64 (idxF ds v n 0)) ∧ w' = w := by
  have HL := Lib.hid hl
  obtain ⟨R, hR⟩ : ∃ R, idxF ds v n 0 = R := ⟨_, rfl⟩
  rw [hR]
  have HR := Lib.hid hR
  clear hl hR
  go_enter Tryz.func102, Tryz.ntmps102
  go_wp2_with (fail)
  go_loopw [8] (fun u wx => ∃ i m : Nat, i + m = n ∧ u = .int .i64 i ∧ idxF ds v m i = R ∧ wx = w) (fun u _ => n - (intOf u).toNat)
  case atStart => exact ⟨0, n, by omega, rfl, HR.out, rfl⟩
  case round =>
    obtain ⟨i, m, him, rfl, hF, hwx⟩ := hrel
    have hwx' := hwx.symm
    clear hwx
    subst hwx'
    cases m with
    | zero =>
      have hie : i = n := by omega
      rw [idxF] at hF
      have HF := Lib.hid hF
      subst hie
      clear hF him
      go_wp2_with (fail)
      go_ret
      exact ⟨ret_i HF.out, rfl⟩
    | succ m =>
      have hlt : i < n := by omega
      obtain ⟨G, o, rfl, hG, hc⟩ := hd.at (Below.refl _ _) i (by have := HL.out; omega)
      rw [idxF] at hF
      obtain ⟨y, hy⟩ : ∃ y, ith ds i = y := ⟨_, rfl⟩
      rw [hy] at hc hF
      have HF := Lib.hid hF
      clear hy hF
      by_cases hv : y = v
      · subst hv
        go_wp2_with (fail)
        go_ret
        exact ⟨ret_i (by have := HF.out; rwa [if_pos trivial] at this), rfl⟩
      · have hb : (v == y) = false := by simpa using fun e => hv e.symm
        go_wp2_with (fail)
        go_roundw
        case rel => exact ⟨i + 1, m, by omega, by go_num, by have := HF.out; rwa [if_neg hv] at this, trivial⟩
        case measure => simp [intOf]; omega
/-- the first i places filled, the rest as they were made -/
def dealF (f : Nat → Int) (run : List Nat) (i : Nat) : List Int := (run.take i).map f ++ List.replicate (run.length - i) 0
theorem dealF_len (f : Nat → Int) (run : List Nat) (i : Nat) (h : i ≤ run.length) : (dealF f run i).length = run.length := by unfold dealF; simp; omega
theorem dealF_next (f : Nat → Int) (run : List Nat) (i : Nat) (h : i < run.length) : (dealF f run i).set i (f (run.getD i 0)) = dealF f run (i + 1) := by
  unfold dealF
  have e : run[i] = run.getD i 0 := by rw [List.getD_eq_getElem?_getD, List.getElem?_eq_getElem h]; rfl
  rw [List.take_succ_eq_append_getElem h, List.map_append, e, List.append_assoc, show run.length - i = (run.length - (i + 1)) + 1 by omega, List.replicate_succ]
  rw [List.set_append_right _ _ (by simp; omega)]
  congr 1
  have : i - ((run.take i).map f).length = 0 := by simp; omega
  rw [this]
  rfl
theorem dealF_zero (f : Nat → Int) (run : List Nat) (i : Nat) (h : i < run.length) : ith (dealF f run 0) i = 0 := by
  unfold dealF ith
  rw [List.getD_eq_getElem?_getD]
  simp [h]
theorem dealF_all (f : Nat → Int) (run : List Nat) : dealF f run run.length = run.map f := by unfold dealF; simp
theorem ints_set (l : List Nat) (i v : Nat) : ints (l.set i v) = (ints l).set i (v : Int) := by unfold ints; rw [List.map_set]
theorem layRun_len (x : Nat) (own : List Int) : ∀ (ps : List Nat) (i : Nat) (out : List Nat), (layRun x own ps i out).length = out.length
  | [], i, out => rfl
  | p :: ps, i, out => by rw [layRun, layRun_len x own ps]; simp
theorem tidyF_len (ds : List Int) (base : Nat) : ∀ (m i ahead : Nat) (out : List Nat), (tidyF ds base m i ahead out).length = out.length
  | 0, i, ahead, out => rfl
  | m + 1, i, ahead, out => by
    rw [tidyF]
    split
    · rw [tidyF_len ds base m]; simp
    · split
      · rw [tidyF_len ds base m]; simp
      · rw [tidyF_len ds base m]
end
section
set_option linter.unusedVariables false
set_option linter.unusedSimpArgs false
open Go.RowKit

theorem Tryz.info_rune : (Tryz.prog.info? 21).map (fun i => (i.zero, i.size, i.bytes)) = some (some (.int .i32 0), 1, 4) := by kernel_rfl
def ParPost (R : List Nat) (n : Nat) (w : World) (e : Ending) (w' : World) : Prop :=
  ∃ a c, e = .returned (.slice a n c) ∧ R.length = n ∧ OutAt .u8 5 w' w.heap.size a c (ints R) ∧ Below w.heap.size w w'
/-- The rounds' state. -/
structure ParRel (w1 : World) (B n : Nat) (v : Value) (runs : List (List Nat)) (out : List Nat) (wx : World) : Prop where
  out_ : OutAt .u8 5 wx B (some ⟨B, 0, none⟩) n (ints out)
  olen : out.length = n
  nest : NestAt wx (B + 1) 56 3 v runs
  bel : Below B w1 wx
  sz : B + 1 ≤ wx.heap.size
theorem ParRel.keep {w1 wx w' : World} {B n : Nat} {v : Value} {runs : List (List Nat)} {out : List Nat} (h : ParRel w1 B n v runs out wx) (hb : Below wx.heap.size wx w') : ParRel w1 B n v runs out w' :=
  ⟨h.out_.keep hb, h.olen, h.nest.keep hb, h.bel.trans (hb.mono (by have := h.sz; omega)), Nat.le_trans h.sz hb.size⟩
theorem ParRel.set {w1 wx : World} {B n : Nat} {v : Value} {runs : List (List Nat)} {out : List Nat} (h : ParRel w1 B n v runs out wx) (i x : Nat) : ParRel w1 B n v runs (out.set i x) (wx.setCell ⟨B, i, none⟩ (.int .u8 x)) := by
  refine ⟨by rw [ints_set]; exact h.out_.set i x, by rw [List.length_set]; exact h.olen, h.nest.far (row := some B) ⟨rfl, rfl, rfl, by simp, fun q hq hne => heap_setCell_other wx ⟨B, i, none⟩ q _ (fun e => hne (by rw [e]))⟩ (fun g e => by cases e; omega), h.bel.setCell (p := ⟨B, i, none⟩) (Nat.le_refl _) _, by simpa [World.setCell] using h.sz⟩
theorem rep_ints (n : Nat) : ints (List.replicate n 0) = List.replicate n 0 := by unfold ints; simp
theorem out_other {k : IntKind} {e base cap G D i : Nat} {w : World} {out : List Int} (h : OutAt k e w base (some ⟨G, 0, none⟩) cap out) (hne : G ≠ D) (v : Value) : OutAt k e (w.setCell ⟨D, i, none⟩ v) base (some ⟨G, 0, none⟩) cap out :=
  World.ownsRow.kept h (row := some D) ⟨rfl, rfl, rfl, by simp [World.setCell], fun q hq hn => heap_setCell_other w ⟨D, i, none⟩ q v (fun e => hn (by rw [e]))⟩ (.inr fun e => hne (by simpa [Value.ownBlock] using e))
theorem OutAt.cap {k : IntKind} {e base cap n : Nat} {w : World} {a : Option Addr} {out : List Int} (h : OutAt k e w base a cap out) (hl : out.length = n) : n ≤ cap := by
  unfold OutAt at h
  obtain ⟨a', c', e, h1, _⟩ := own_slice h
  cases e
  omega
theorem Rd.far {k : IntKind} {w w' : World} {G o B : Nat} {xs : List Int} (h : Rd k w (some ⟨G, o, none⟩) xs) (hg : w.grownBy w' (some B)) (hne : G ≠ B) : Rd k w' (some ⟨G, o, none⟩) xs := by
  rcases h with h | ⟨b, off, e, hb, hc⟩
  · exact .inl h
  · cases e
    exact .inr ⟨G, o, rfl, Nat.lt_of_lt_of_le hb hg.size, fun i hi => (World.cell?_of_block (a := ⟨G, o + i, none⟩) (hg.block G hb (fun e => hne (Option.some.inj e)))).trans (hc i hi)⟩
theorem grown_set {w w' : World} {B i : Nat} (h : w.grownBy w' (some B)) (v : Value) : w.grownBy (w'.setCell ⟨B, i, none⟩ v) (some B) :=
  ⟨h.os, h.tape, h.output, by simpa [World.setCell] using h.size, fun q hq hne => (heap_setCell_other w' ⟨B, i, none⟩ q v (fun e => hne (by rw [e]))).trans (h.block q hq hne)⟩
theorem PResolve_at (ra ka : Option Addr) (rs ks : List Int) (L rc kc : Nat) (level : Nat) (sos eos : Int) (w : World) (h1 : rs.length = L) (h2 : ks.length = L) (hr : Rd .i32 w ra rs) (hk : Rd .i8 w ka ks) (hn : L ≤ 2097152) (hrc : L ≤ rc) (hkc : L ≤ kc) (hl : level ≤ 125) :
    Calls Tryz.prog 130 #[.slice ra L rc, .slice ka L kc, .int .u8 level, .int .i8 sos, .int .i8 eos] w fun e w' =>
      ∃ a c, e = .returned (.slice a L c) ∧ (resI rs ks level sos eos).length = L ∧ OutAt .i8 22 w' w.heap.size a c (resI rs ks level sos eos) ∧ Below w.heap.size w w' := by
  subst h1
  have := Resolve_any ra ka rs ks rc kc level sos eos w hr hk hn (by omega) hrc (by omega) (by omega)
  rw [h2] at this
  refine this.mono fun e w' h => ?_
  obtain ⟨v, l, hp, hs, rfl, hlen, hown, hb⟩ := h
  have hm : min rs.length ks.length = rs.length := by omega
  rw [resI_of hp hs] at hlen hown
  rw [hm] at hlen hown
  obtain ⟨a, c, rfl, _, _⟩ := own_slice hown
  refine ⟨a, c, rfl, hlen, ?_, hb⟩
  unfold OutAt
  rw [hlen]
  exact hown
theorem made_at (W : World) (k : IntKind) (t L : Nat) (f : Nat → Int) (run : List Nat) (hL : run.length = L) (hn : L ≤ 2097152) (base : Nat) (hb : base ≤ W.heap.size) :
    OutAt k t (W.alloc (.cells (madeCells #[.int k 0] L) t)) base (some ⟨W.heap.size, 0, none⟩) L (dealF f run 0) :=
  out_of_row ((World.rowIs_made W (.int k 0) L t).congr fun i hi => by rw [dealF_zero f run i (by omega)]) (by rw [dealF_len f run 0 (Nat.zero_le _)]; exact hL) hb (by unfold maxLen; omega)
theorem made_two (W : World) (k1 k2 : IntKind) (t1 t2 L : Nat) (f1 f2 : Nat → Int) (run : List Nat) (hL : run.length = L) (hn : L ≤ 2097152) :
    OutAt k1 t1 ((W.alloc (.cells (madeCells #[.int k1 0] L) t1)).alloc (.cells (madeCells #[.int k2 0] L) t2)).drew W.heap.size (some ⟨W.heap.size, 0, none⟩) L (dealF f1 run 0) ∧
    OutAt k2 t2 ((W.alloc (.cells (madeCells #[.int k1 0] L) t1)).alloc (.cells (madeCells #[.int k2 0] L) t2)).drew W.heap.size (some ⟨W.heap.size + 1, 0, none⟩) L (dealF f2 run 0) ∧
    Below W.heap.size W ((W.alloc (.cells (madeCells #[.int k1 0] L) t1)).alloc (.cells (madeCells #[.int k2 0] L) t2)).drew := by
  have h1 := made_at W k1 t1 L f1 run hL hn W.heap.size (Nat.le_refl _)
  have h2 := made_at (W.alloc (.cells (madeCells #[.int k1 0] L) t1)) k2 t2 L f2 run hL hn W.heap.size (by simp)
  rw [World.size_alloc] at h2
  exact ⟨World.ownsRow.drew (World.ownsRow.alloc h1 _), World.ownsRow.drew h2, (((Below.refl _ _).alloc (Nat.le_refl _) _).alloc (by simp) _).drew⟩
set_option maxRecDepth 100000 in
set_option maxHeartbeats 1000000 in
theorem Para_any (a da : Option Addr) (cs ds : List Int) (n c dc base : Nat) (w : World) (hl : cs.length = n) (hdl : ds.length = n) (hc : Rd .i32 w a cs) (hd : Rd .i8 w da ds) (hn : n ≤ 2097152) (hnc : n ≤ dc) (hcm : dc ≤ 9223372036854775807) (hb : base ≤ 125) :
    Calls Tryz.prog 103 #[.slice a n c, .slice da n dc, .int .u8 base] w (ParPost (paraI cs ds base) n w) := by
  obtain ⟨i5, hi5, hz5, ha5, hb5⟩ := info_parts (Tryz.info_u8)
  obtain ⟨i40, hi40, hz40, ha40, hb40⟩ := info_parts (Tryz.info_i8)
  obtain ⟨i21, hi21, hz21, ha21, hb21⟩ := info_parts (Tryz.info_rune)
  have HLV := Lib.hid (LLevels_any da ds n dc base w hdl hd hn hnc hcm hb)
  unfold LevPost at HLV
  have hok := levI_ok ds base
  have hP : paraI cs ds base = tidyF ds base ds.length 0 base ((runsI ds ((levI ds base).1.map Int.ofNat)).foldl (fun out run => runOut cs ds (levI ds base).1 (levI ds base).2 base run out) (List.replicate cs.length 0)) := rfl
  have hin : (levI ds base).1.map Int.ofNat = ints (levI ds base).1 := rfl
  rw [hin, hl, hdl] at hP
  rw [hdl] at hok
  have hrok := runsI_ok ds (ints (levI ds base).1)
  rw [ints_len, hok.1, hdl, Nat.min_self] at hrok
  obtain ⟨lev, hlev⟩ : ∃ lev, (levI ds base).1 = lev := ⟨_, rfl⟩
  obtain ⟨kin, hkin⟩ : ∃ kin, (levI ds base).2 = kin := ⟨_, rfl⟩
  rw [hlev, hkin] at hok hP
  rw [hlev] at hrok
  rw [hlev, hkin] at HLV
  obtain ⟨R, hR⟩ : ∃ R, runsI ds (ints lev) = R := ⟨_, rfl⟩
  rw [hR] at hP hrok
  obtain ⟨FO, hFO⟩ : ∃ FO, R.foldl (fun out run => runOut cs ds lev kin base run out) (List.replicate n 0) = FO := ⟨_, rfl⟩
  rw [hFO] at hP
  rw [hP]
  have HL := Lib.hid hl
  have HDL := Lib.hid hdl
  have HOK := Lib.hid hok
  have HROK := Lib.hid hrok
  have HR := Lib.hid hR
  have HFO := Lib.hid hFO
  have hmk := run_make_row (P := Tryz.prog) 42 5 i5 (.int .u8 0) Tryz.underlying42 hi5 hz5 ha5 rfl .i64 .i64 n (by rw [hb5]; omega) (by omega)
  clear hok hP hin hrok hlev hkin hR hFO hl hdl
  go_enter Tryz.func103, Tryz.ntmps103
  go_upto_region 3 with (go_at_call 127; refine HLV.out.mono ?_; rintro e w1 ⟨la, lc, ka, kc, rfl, hLO, hKO, hb1⟩)
  clear hmk
  obtain ⟨B, hB⟩ : ∃ B, w1.heap.size = B := ⟨_, rfl⟩
  obtain ⟨W2, hW2⟩ : ∃ W2, W2 = w1.alloc (.cells (madeCells #[.int .u8 0] n) 5) := ⟨_, rfl⟩
  rw [← hW2, hB]
  have hW2s : W2.heap.size = B + 1 := by rw [hW2, World.size_alloc, hB]
  have hO2 : OutAt .u8 5 W2 B (some ⟨B, 0, none⟩) n (ints (List.replicate n 0)) := by
    have := out_of_row (base := B) (xs := List.replicate n 0) ((World.rowIs_made w1 (.int .u8 0) n 5).congr fun i hi => by rw [rep_zero n i hi]) (by simp) (by rw [hB]; exact Nat.le_refl _) (by unfold maxLen; omega)
    rw [hB, ← hW2] at this
    rw [rep_ints]; exact this
  have hb2 : Below B w1 W2 := by rw [hW2]; exact (Below.refl _ _).alloc (by omega) _
  have hLR : Rd .u8 w1 la (ints lev) := hLO.rd
  have hKR : Rd .i8 w1 ka kin := hKO.rd
  have hwB : w.heap.size ≤ B := by rw [← hB]; exact hb1.size
  have HRU := Lib.hid (LRuns_any da la ds (ints lev) n dc lc W2 HDL.out (by rw [ints_len]; exact HOK.out.1) (hd.below (hb1.trans (hb2.mono hwB))) (hLR.below (by rw [hB]; exact hb2)) hn hnc hcm)
  unfold RunsPost at HRU
  rw [HR.out, hW2s] at HRU
  have HB := Lib.hid hB
  have HB1 := Lib.hid hb1
  have HB2 := Lib.hid hb2
  clear hB hW2 hb1 hb2 hLO hKO
  go_upto_block 0 with (go_at_call 128; refine HRU.out.mono ?_; rintro e w3 ⟨v, rfl, hNE, hb3⟩; obtain ⟨va, vc, hva, hvc1, hvc2⟩ := hNE.shape; subst hva)
  have hPR0 : ParRel w1 B n (.slice va R.length vc) R (List.replicate n 0) w3 :=
    ⟨hO2.keep (by rw [hW2s]; exact hb3), by simp, by rw [← hW2s]; rw [hW2s]; exact hNE, HB2.out.trans (hb3.mono (by omega)), by have := hb3.size; omega⟩
  obtain ⟨RN, hRN⟩ : ∃ RN, R.length = RN := ⟨_, rfl⟩
  rw [hRN] at hPR0 hvc1 ⊢
  unfold maxLen at hvc2
  have HRN := Lib.hid hRN
  have HRD := Lib.hid (And.intro hLR hKR)
  clear hNE hb3 hO2 hW2s hRN hLR hKR
  go_cut [37] (fun _ wx => ParRel w1 B n (.slice va RN vc) R FO wx)
  case first =>
    go_wp2_with (fail)
    go_loopw [37] (fun u wx => ∃ (j m : Nat) (out : List Nat), j + m = RN ∧ u = .int .i64 j ∧ ParRel w1 B n (.slice va RN vc) R out wx ∧ (R.drop j).foldl (fun out run => runOut cs ds lev kin base run out) out = FO) (fun u _ => RN - (intOf u).toNat)
    case atStart => exact ⟨0, RN, List.replicate n 0, by omega, rfl, hPR0, by rw [List.drop_zero]; exact HFO.out⟩
    case round =>
      obtain ⟨j, m, out, hjm, rfl, rel, hF⟩ := hrel
      clear hPR0
      obtain ⟨V, hV⟩ : ∃ V, V = wr := ⟨_, rfl⟩
      subst hV
      cases m with
      | zero =>
        have hje : j = RN := by omega
        have hF2 : out = FO := by rw [← hF, hje, ← HRN.out, List.drop_length]; rfl
        subst hje
        subst hF2
        clear hF hjm
        go_wp2_with (fail)
        go_meet
        exact rel
      | succ m =>
        have hlt : j < RN := by omega
        obtain ⟨run, hrun⟩ : ∃ run, R.getD j [] = run := ⟨_, rfl⟩
        have hmem : run ∈ R := by rw [← hrun, List.getD_eq_getElem?_getD, List.getElem?_eq_getElem (by have := HRN.out; omega)]; exact List.getElem_mem _
        have hdrop : R.drop j = run :: R.drop (j + 1) := by
          rw [List.drop_eq_getElem_cons (by have := HRN.out; omega), ← hrun, List.getD_eq_getElem?_getD, List.getElem?_eq_getElem (by have := HRN.out; omega)]; rfl
        rw [hdrop, List.foldl_cons] at hF
        obtain ⟨hne, hall, hlen⟩ := HROK.out run hmem
        obtain ⟨L, hL⟩ : ∃ L, run.length = L := ⟨_, rfl⟩
        have hLp : 0 < L := by rw [← hL]; exact List.length_pos_iff.2 hne
        rw [hL] at hlen
        obtain ⟨Gv, cv, s, hv, hG1, hG2, hcell, _, _, hs, _, _⟩ := rel.nest.elem j (by have := HRN.out; omega)
        rw [hrun, hL] at hs
        obtain ⟨ra, rc, rfl, hrc1, hrc2⟩ := own_slice hs
        obtain ⟨Gr, hra, hGrB, hGrl, _⟩ := own_cells hs hLp
        subst hra
        have hRR : Rd .i64 V (some ⟨Gr, 0, none⟩) (ints run) := (own_out hs hL).rd
        rw [HRN.out] at hv
        cases hv
        have HREL := Lib.hid rel
        have HF := Lib.hid hF
        have HLr := Lib.hid hL
        have HALL := Lib.hid hall
        have HNE := Lib.hid hne
        have g0 : (0 : Int) ≤ (j : Int) := by omega
        have g1 : (j : Int) < (RN : Int) := by omega
        clear rel hF hdrop hrun hmem hs hL hall hne
        go_upto_region 6 with (fail)
        have hmk21 := run_make_row (P := Tryz.prog) 82 21 i21 (.int .i32 0) Tryz.underlying82 hi21 hz21 ha21 rfl .i64 .i64 L (by rw [hb21]; omega) (by omega)
        have hmk40 := run_make_row (P := Tryz.prog) 142 22 i40 (.int .i8 0) Tryz.underlying142 hi40 hz40 ha40 rfl .i64 .i64 L (by rw [hb40]; omega) (by omega)
        go_cut [12, 13] (fun v12 v13 wx => ∃ C D, v12 = .slice (some ⟨C, 0, none⟩) L L ∧ v13 = .slice (some ⟨D, 0, none⟩) L L ∧ C ≠ D ∧ OutAt .i32 21 wx V.heap.size (some ⟨C, 0, none⟩) L (dealF (ith cs) run 0) ∧ OutAt .i8 22 wx V.heap.size (some ⟨D, 0, none⟩) L (dealF (ith kin) run 0) ∧ Below V.heap.size V wx)
        case first =>
          clear hcell
          go_region
          all_goals go_wp2_with (fail)
          · go_meet
            obtain ⟨m1, m2, m3⟩ := made_two V .i32 .i8 21 22 L (ith cs) (ith kin) run HLr.out (by omega)
            exact ⟨V.heap.size, V.heap.size + 1, rfl, rfl, by omega, m1, m2, m3⟩
          · go_meet
            obtain ⟨m1, m2, m3⟩ := made_two V .i8 .i32 22 21 L (ith kin) (ith cs) run HLr.out (by omega)
            exact ⟨V.heap.size + 1, V.heap.size, rfl, rfl, by omega, m2, m1, m3⟩
        case rest =>
          obtain ⟨C, D, rfl, rfl, hCD, hOC, hOD, hbV⟩ := hcut
          have HOC := Lib.hid hOC
          have HOD := Lib.hid hOD
          have HBV := Lib.hid hbV
          clear hOC hOD hbV hcell hmk21 hmk40
          obtain ⟨V2, hV2⟩ : ∃ V2, V2 = wc := ⟨_, rfl⟩
          subst hV2
          have hBV : B < V.heap.size := by have := HREL.out.sz; omega
          go_upto_block 2 with (fail)
          go_cut [14, 15] (fun _ _ wx => OutAt .i32 21 wx V.heap.size (some ⟨C, 0, none⟩) L (run.map (ith cs)) ∧ OutAt .i8 22 wx V.heap.size (some ⟨D, 0, none⟩) L (run.map (ith kin)) ∧ Below V.heap.size V wx)
          case first =>
            go_wp2_with (fail)
            go_loopw [14, 15, 49] (fun _ _ u wx => ∃ i : Nat, i ≤ L ∧ u = .int .i64 i ∧ OutAt .i32 21 wx V.heap.size (some ⟨C, 0, none⟩) L (dealF (ith cs) run i) ∧ OutAt .i8 22 wx V.heap.size (some ⟨D, 0, none⟩) L (dealF (ith kin) run i) ∧ Below V.heap.size V wx) (fun _ _ u _ => L - (intOf u).toNat)
            case atStart => exact ⟨0, by omega, rfl, HOC.out, HOD.out, HBV.out⟩
            case round =>
              obtain ⟨i, hi, rfl, hOC, hOD, hbV⟩ := hrel
              clear HOC HOD HBV
              by_cases hlt : i < L
              · obtain ⟨p, hp⟩ : ∃ p, run.getD i 0 = p := ⟨_, rfl⟩
                have hpn : p < n := HALL.out p (by rw [← hp, List.getD_eq_getElem?_getD, List.getElem?_eq_getElem (by have := HLr.out; omega)]; exact List.getElem_mem _)
                have hsV := hbV.size
                have hsV1 : w1.heap.size = B := HB.out
                have hBw : Below B w1 wr := HREL.out.bel.trans (hbV.mono (by omega))
                obtain ⟨Gr', ro, hra, hGr, hpc⟩ := hRR.at hbV i (by rw [ints_len, HLr.out]; exact hlt)
                cases hra
                obtain ⟨Gc, co, hca, hGc, hcc⟩ := hc.at (HB1.out.trans (hBw.mono hwB)) p (by rw [HL.out]; exact hpn)
                subst hca
                obtain ⟨Gk, ko, hka, hGk, hkc⟩ := HRD.out.2.at (by rw [hsV1]; exact hBw) p (by rw [HOK.out.2.1]; exact hpn)
                subst hka
                obtain ⟨C', hC', hC1, _, hXC, hFC, _, _⟩ := hOC.at i (by rw [dealF_len _ _ _ (by rw [HLr.out]; exact hi), HLr.out]; exact hlt)
                cases hC'
                obtain ⟨D', hD', hD1, _, hXD, hFD, _, _⟩ := hOD.at i (by rw [dealF_len _ _ _ (by rw [HLr.out]; exact hi), HLr.out]; exact hlt)
                cases hD'
                rw [ith_ints, hp, Nat.zero_add] at hpc
                obtain ⟨x1, hx1⟩ : ∃ x1, ith cs p = x1 := ⟨_, rfl⟩
                obtain ⟨x2, hx2⟩ : ∃ x2, ith kin p = x2 := ⟨_, rfl⟩
                generalize ith (dealF (ith cs) run i) i = v1 at hXC
                generalize ith (dealF (ith kin) run i) i = v2 at hXD
                rw [hx1] at hcc
                rw [hx2] at hkc
                have hn1 := dealF_next (ith cs) run i (by rw [HLr.out]; exact hlt)
                have hn2 := dealF_next (ith kin) run i (by rw [HLr.out]; exact hlt)
                rw [hp, hx1] at hn1
                rw [hp, hx2] at hn2
                have hS1 := hOC.set i x1
                have hS2 := hOD.set i x2
                rw [hn1] at hS1
                rw [hn2] at hS2
                have HA1 := Lib.hid (out_other (D := D) (i := i) hS1 hCD (.int .i8 x2))
                have HA2 : Hid (OutAt .i8 22 ((wr.setCell ⟨C, i, none⟩ (.int .i32 x1)).setCell ⟨D, i, none⟩ (.int .i8 x2)) V.heap.size (some ⟨D, 0, none⟩) L (dealF (ith kin) run (i + 1))) := Lib.hid (by
                  have := (out_other (D := C) (i := i) hOD (fun e => hCD e.symm) (.int .i32 x1)).set i x2
                  rwa [hn2] at this)
                have HA3 := Lib.hid (out_other (D := C) (i := i) hS2 (fun e => hCD e.symm) (.int .i32 x1))
                have HA4 : Hid (OutAt .i32 21 ((wr.setCell ⟨D, i, none⟩ (.int .i8 x2)).setCell ⟨C, i, none⟩ (.int .i32 x1)) V.heap.size (some ⟨C, 0, none⟩) L (dealF (ith cs) run (i + 1))) := Lib.hid (by
                  have := (out_other (D := D) (i := i) hOC hCD (.int .i8 x2)).set i x1
                  rwa [hn1] at this)
                have HA5 := Lib.hid (((hbV.setCell (p := ⟨C, i, none⟩) hC1 (.int .i32 x1)).setCell (p := ⟨D, i, none⟩) hD1 (.int .i8 x2)).drew)
                have HA6 := Lib.hid (((hbV.setCell (p := ⟨D, i, none⟩) hD1 (.int .i8 x2)).setCell (p := ⟨C, i, none⟩) hC1 (.int .i32 x1)).drew)
                have e1 : Gc ≠ C := by omega
                have e2 : Gc ≠ D := by omega
                have e3 : Gk ≠ C := by omega
                have e4 : Gk ≠ D := by omega
                have e5 : C ≠ Gc := by omega
                have e6 : D ≠ Gc := by omega
                have e7 : C ≠ Gk := by omega
                have e8 : D ≠ Gk := by omega
                have e9 : D ≠ C := fun e => hCD e.symm
                have gp0 : (0 : Int) ≤ (p : Int) := by omega
                have gp1 : (p : Int) < (n : Int) := by omega
                have gi0 : (0 : Int) ≤ (i : Int) := by omega
                have gi1 : (i : Int) < (L : Int) := by omega
                clear hOC hOD hbV hp hx1 hx2 hn1 hn2 hS1 hS2 hBw hsV1 hi
                go_upto_region 10 with (fail)
                go_region_held3 (fun w' => w'.cell? ⟨Gc, co + p, none⟩ = some (.int .i32 x1) ∧ w'.cell? ⟨Gk, ko + p, none⟩ = some (.int .i8 x2)) (go_keep) (fail)
                all_goals go_wp2_with (fail)
                all_goals go_roundw
                all_goals first | (case rel => first | exact ⟨i + 1, by omega, by go_num, HA1.out, HA2.out, HA5.out⟩ | exact ⟨i + 1, by omega, by go_num, HA4.out, HA3.out, HA6.out⟩) | (case measure => simp [intOf]; omega)
              · have hie : i = L := by omega
                subst hie
                rw [← HLr.out, dealF_all, HLr.out] at hOC hOD
                clear hi hlt
                go_wp2_with (fail)
                go_meet
                exact ⟨hOC, hOD, hbV⟩
          case rest =>
            obtain ⟨hOC, hOD, hbV⟩ := hcut
            obtain ⟨V3, hV3⟩ : ∃ V3, V3 = wc := ⟨_, rfl⟩
            subst hV3
            have hsw1 : w1.heap.size = B := HB.out
            have hsV := hbV.size
            have hBw : Below B w1 V3 := HREL.out.bel.trans (hbV.mono (by omega))
            have hWw : Below w.heap.size w V3 := HB1.out.trans (hBw.mono hwB)
            obtain ⟨p0, hp0⟩ : ∃ p0, run.getD 0 0 = p0 := ⟨_, rfl⟩
            have hp0n : p0 < n := HALL.out p0 (by rw [← hp0, List.getD_eq_getElem?_getD, List.getElem?_eq_getElem (by have := HLr.out; omega)]; exact List.getElem_mem _)
            obtain ⟨Gr', ro, hra, hGr, hpc⟩ := hRR.at hbV 0 (by rw [ints_len, HLr.out]; exact hLp)
            cases hra
            rw [ith_ints, hp0, Nat.add_zero] at hpc
            have hLR3 : Rd .u8 V3 la (ints lev) := HRD.out.1.below (by rw [hsw1]; exact hBw)
            obtain ⟨Gl, lo, hla, hGl, hlc⟩ := hLR3.at (Below.refl _ _) p0 (by rw [ints_len, HOK.out.1]; exact hp0n)
            subst hla
            obtain ⟨X, hX⟩ : ∃ X, lev.getD p0 0 = X := ⟨_, rfl⟩
            rw [ith_ints, hX] at hlc
            have hX5 : X ≤ 125 := by rw [← hX]; exact getD_le HOK.out.2.2.1 p0
            obtain ⟨s1, hs1⟩ : ∃ s1, (sidesI ds lev base run).1 = s1 := ⟨_, rfl⟩
            obtain ⟨s2, hs2⟩ : ∃ s2, (sidesI ds lev base run).2 = s2 := ⟨_, rfl⟩
            have hSI := LSides_any da (some ⟨Gl, lo, none⟩) (some ⟨Gr, 0, none⟩) ds lev run n dc lc rc L base V3 HDL.out HOK.out.1 HLr.out (hd.below hWw) hLR3 (hRR.below hbV) hLp hn (by omega) hnc hcm HALL.out hb HOK.out.2.2.1
            rw [hs1, hs2] at hSI
            have HSI := Lib.hid hSI
            obtain ⟨wk, hwk⟩ : ∃ wk, weakF (run.map (ith kin)) s1 = wk := ⟨_, rfl⟩
            have hWR := fun W (hb : Below V3.heap.size V3 W) => WResolve_any (some ⟨D, 0, none⟩) (run.map (ith kin)) L s1 W (hOD.rd.below hb) (by rw [List.length_map, HLr.out]; omega)
            unfold WeakPost at hWR
            rw [hwk, List.length_map, HLr.out] at hWR
            have HWR := Lib.hid hWR
            have HOC := Lib.hid hOC
            obtain ⟨own, hown⟩ : ∃ own, resI (run.map (ith cs)) wk X s1 s2 = own := ⟨_, rfl⟩
            have hRO : runOut cs ds lev kin base run out = layRun X own run 0 out := by
              rw [← hown, ← hwk, ← hs1, ← hs2, ← hX, ← hp0]; rfl
            have HF2 : Hid ((R.drop (j + 1)).foldl (fun out run => runOut cs ds lev kin base run out) (layRun X own run 0 out) = FO) := Lib.hid (by rw [← hRO]; exact HF.out)
            have HB3 := Lib.hid hbV
            have HOWN := Lib.hid hown
            have g00 : (0 : Int) < (L : Int) := by omega
            have gp0 : (0 : Int) ≤ (p0 : Int) := by omega
            have gp1 : (p0 : Int) < (n : Int) := by omega
            clear hOC hOD hbV hBw hWw hp0 hX hs1 hs2 hwk hSI hWR hown hRO HF HLV HRU HROK HFO HR hLR3
            go_upto_region 15 with (first
              | (go_at_call 129; refine HSI.out.mono ?_; rintro e w4 ⟨rfl, hb4⟩)
              | (go_at_call 131; refine (HWR.out w4 hb4).mono ?_; rintro e w5 ⟨ka5, kc5, rfl, hkl5, hKO5, hb5'⟩)
              | (go_at_call 130; refine (PResolve_at (some ⟨C, 0, none⟩) ka5 (run.map (ith cs)) wk L L kc5 X s1 s2 w5 (by rw [List.length_map, HLr.out]) hkl5 (HOC.out.rd.below (hb4.trans (hb5'.mono hb4.size))) hKO5.rd (by omega) (Nat.le_refl _) (OutAt.cap hKO5 hkl5) hX5).mono ?_; rintro e w6 ⟨oa, oc, rfl, hol, hOO, hb6⟩))
            rw [HOWN.out] at hOO hol
            have HB6 : Hid (Below V3.heap.size V3 w6) := Lib.hid (hb4.trans ((hb5'.mono hb4.size).trans (hb6.mono (by have := hb4.size; have := hb5'.size; omega))))
            have hPR6 : ParRel w1 B n (.slice (some ⟨Gv, 0, none⟩) RN vc) R out w6 := (HREL.out.keep HB3.out).keep HB6.out
            have hs35 : B < w5.heap.size := by have := hb4.size; have := hb5'.size; omega
            have hRR6 : Rd .i64 w6 (some ⟨Gr, 0, none⟩) (ints run) := hRR.below (HB3.out.trans (HB6.out.mono hsV))
            have hG0 : w6.grownBy w6 (some B) := World.grownBy.refl _ _
            clear hb4 hb5' hb6 hKO5 hpc hlc HSI HWR
            go_wp2_with (fail)
            go_loopw [19, 20, 93] (fun _ _ u wx => ∃ (i q : Nat) (out' : List Nat), i + q = L ∧ u = .int .i64 i ∧ ParRel w1 B n (.slice (some ⟨Gv, 0, none⟩) RN vc) R out' wx ∧ w6.grownBy wx (some B) ∧ layRun X own (run.drop i) i out' = layRun X own run 0 out) (fun _ _ u _ => L - (intOf u).toNat)
            case atStart => exact ⟨0, L, out, by omega, rfl, hPR6, hG0, by rw [List.drop_zero]⟩
            case round =>
              obtain ⟨i, q, out', hiq, rfl, rel, hg, hF⟩ := hrel
              clear hPR6 hG0
              cases q with
              | zero =>
                have hie : i = L := by omega
                have hF2 : out' = layRun X own run 0 out := by rw [← hF, hie, ← HLr.out, List.drop_length]; rfl
                subst hie
                rw [hF2] at rel
                have HC := Lib.hid rel
                clear hF hF2 hiq rel
                go_wp2_with (fail)
                go_roundw
                case rel => exact ⟨j + 1, m, layRun X own run 0 out, by omega, by go_num, HC.out, HF2.out⟩
                case measure => simp [intOf]; omega
              | succ q =>
                have hlt : i < L := by omega
                obtain ⟨p, hp⟩ : ∃ p, run.getD i 0 = p := ⟨_, rfl⟩
                have hpn : p < n := HALL.out p (by rw [← hp, List.getD_eq_getElem?_getD, List.getElem?_eq_getElem (by have := HLr.out; omega)]; exact List.getElem_mem _)
                have hdrop : run.drop i = p :: run.drop (i + 1) := by
                  rw [List.drop_eq_getElem_cons (by have := HLr.out; omega), ← hp, List.getD_eq_getElem?_getD, List.getElem?_eq_getElem (by have := HLr.out; omega)]; rfl
                obtain ⟨Gr', ro, hra, hGr', hpc⟩ := (hRR6.far hg (by omega)).at (Below.refl _ _) i (by rw [ints_len, HLr.out]; exact hlt)
                cases hra
                rw [ith_ints, hp, Nat.zero_add] at hpc
                have hOOx := World.ownsRow.kept hOO hg (.inr fun e => by have := (World.ownsRow.lt hOO B e).1; omega)
                obtain ⟨Go, hGo, _, _, hoc, _, _, _⟩ := OutAt.at hOOx i (by rw [hol]; exact hlt)
                subst hGo
                obtain ⟨k, hk⟩ : ∃ k, ith own i = k := ⟨_, rfl⟩
                rw [hk] at hoc
                obtain ⟨B', hB', _, _, hXo, hFo, _, _⟩ := rel.out_.at p (by rw [ints_len, rel.olen]; exact hpn)
                cases hB'
                obtain ⟨U, hU⟩ : ∃ U, upI X k = U := ⟨_, rfl⟩
                have hU2 : U ≤ 2 := by rw [← hU]; exact upI_le X k
                have HUP : Hid (∀ W, Calls Tryz.prog 132 #[.int .u8 X, .int .i8 k] W fun e w' => e = .returned (.int .u8 (U : Nat)) ∧ W = w') := Lib.hid fun W => by rw [← hU]; exact up_any X k W hX5
                rw [hdrop, layRun, hk, hU] at hF
                have HF := Lib.hid hF
                have hst := rel.set p (X + U)
                have hgs := grown_set (i := p) hg (.int .u8 ((X + U : Nat) : Int))
                rw [Int.natCast_add] at hst hgs
                have HST := Lib.hid hst
                have HGS := Lib.hid hgs
                generalize ith (ints out') p = vo at hXo
                have gp0 : (0 : Int) ≤ (p : Int) := by omega
                have gp1 : (p : Int) < (n : Int) := by omega
                have gi0 : (0 : Int) ≤ (i : Int) := by omega
                have gi1 : (i : Int) < (L : Int) := by omega
                clear hF hdrop hp hk hU hst hgs rel hg hOOx
                go_wp2_with (go_at_call 132; refine (HUP.out _).mono ?_; rintro e w' ⟨rfl, hw'⟩; subst hw')
                go_roundw
                case rel => exact ⟨i + 1, q, out'.set p (X + U), by omega, by go_num, HST.out, HGS.out, HF.out⟩
                case measure => simp [intOf]; omega
  case rest =>
    have HPR := Lib.hid hcut
    obtain ⟨FIN, hFIN⟩ : ∃ FIN, tidyF ds base n 0 base FO = FIN := ⟨_, rfl⟩
    have HFIN := Lib.hid hFIN
    clear hcut hPR0 hFIN HLV HRU
    go_wp2_with (fail)
    rw [HFIN.out]
    go_loopw [21, 22, 23, 114] (fun u21 _ _ u wx => ∃ (i m ahead : Nat) (out : List Nat), i + m = n ∧ u = .int .i64 i ∧ u21 = .int .u8 (ahead : Nat) ∧ ParRel w1 B n (.slice va RN vc) R out wx ∧ tidyF ds base m i ahead out = FIN) (fun _ _ _ u _ => n - (intOf u).toNat)
    case atStart => exact ⟨0, n, base, FO, by omega, rfl, rfl, HPR.out, HFIN.out⟩
    case round =>
      obtain ⟨i, m, ahead, out, him, rfl, rfl, rel, hF⟩ := hrel
      clear HPR
      cases m with
      | zero =>
        have hie : i = n := by omega
        rw [tidyF] at hF
        subst hF hie
        have REL := Lib.hid rel
        clear him rel
        go_wp2_with (fail)
        go_ret
        have r := REL.out
        rw [HFIN.out]
        exact ⟨_, _, rfl, r.olen, ownsRow_base r.out_ (by omega), HB1.out.trans (r.bel.mono hwB)⟩
      | succ m =>
        have hlt : i < n := by omega
        have hsw1 : w1.heap.size = B := HB.out
        obtain ⟨Gd, od, hda, hGd, hdc⟩ := hd.at (HB1.out.trans (rel.bel.mono hwB)) i (by rw [HDL.out]; exact hlt)
        subst hda
        obtain ⟨d, hd'⟩ : ∃ d, ith ds i = d := ⟨_, rfl⟩
        rw [hd'] at hdc
        rw [tidyF, hd'] at hF
        obtain ⟨lb, hlb⟩ : ∃ lb, leftB d = lb := ⟨_, rfl⟩
        have HLB : Hid (∀ W, Calls Tryz.prog 105 #[.int .i8 d] W fun e w' => e = .returned (.bool lb) ∧ W = w') := Lib.hid fun W => by rw [← hlb]; exact vleft_any d W
        rw [hlb] at hF
        obtain ⟨B', hB', _, _, hXo, hFo, _, _⟩ := rel.out_.at i (by rw [ints_len, rel.olen]; exact hlt)
        cases hB'
        rw [ith_ints] at hXo
        have HF := Lib.hid hF
        have HS1 := Lib.hid (rel.set i ahead)
        have HS2 := Lib.hid (rel.set i base)
        have REL := Lib.hid rel
        have hcl : wr.cell? ⟨B, i, none⟩ = some (.int .u8 (out.getD i 0 : Nat)) := hXo
        obtain ⟨vo, hvo⟩ : ∃ vo, out.getD i 0 = vo := ⟨_, rfl⟩
        rw [hvo] at hXo HF
        have gi0 : (0 : Int) ≤ (i : Int) := by omega
        have gi1 : (i : Int) < (n : Int) := by omega
        have c1 := cell_set hXo (.int .u8 (ahead : Nat))
        have c2 := cell_set hXo (.int .u8 (base : Nat))
        clear hF rel hd' hlb hcl hvo
        cases lb with
        | true =>
          clear c2
          go_wp2_with (go_at_call 105; refine (HLB.out _).mono ?_; rintro e w' ⟨rfl, hw'⟩; subst hw')
          go_roundw
          case rel => exact ⟨i + 1, m, ahead, out.set i ahead, by omega, by go_num, rfl, HS1.out, by have := HF.out; rwa [if_pos (by first | rfl | trivial)] at this⟩
          case measure => simp [intOf]; omega
        | false =>
          have e := HF.out
          rw [if_neg (by simp)] at e
          clear c1
          by_cases h10 : d = 10
          · rw [if_pos h10] at e
            subst h10
            have HE := Lib.hid e
            clear e
            go_wp2_with (go_at_call 105; refine (HLB.out _).mono ?_; rintro e w' ⟨rfl, hw'⟩; subst hw')
            go_roundw
            case rel => exact ⟨i + 1, m, base, out.set i base, by omega, by go_num, rfl, HS2.out, HE.out⟩
            case measure => simp [intOf]; omega
          · rw [if_neg h10] at e
            have HE := Lib.hid e
            have c10 : (d == 10) = false := by simpa using h10
            clear e c2 h10
            go_wp2_with (go_at_call 105; refine (HLB.out _).mono ?_; rintro e w' ⟨rfl, hw'⟩; subst hw')
            go_roundw
            case rel => exact ⟨i + 1, m, vo, out, by omega, by go_num, rfl, REL.out, HE.out⟩
            case measure => simp [intOf]; omega
end
section
set_option linter.unusedVariables false
set_option linter.unusedSimpArgs false
open Go.RowKit

def dealD (cs : List Int) (i : Nat) : List Int := (cs.take i).map dirI ++ List.replicate (cs.length - i) 0
theorem dealD_next (cs : List Int) (i : Nat) (h : i < cs.length) : (dealD cs i).set i (dirI (ith cs i)) = dealD cs (i + 1) := by
  unfold dealD
  have e : cs[i] = ith cs i := by rw [ith, List.getD_eq_getElem?_getD, List.getElem?_eq_getElem h]; rfl
  rw [List.take_succ_eq_append_getElem h, List.map_append, e, List.append_assoc, show cs.length - i = (cs.length - (i + 1)) + 1 by omega, List.replicate_succ]
  rw [List.set_append_right _ _ (by simp; omega)]
  congr 1
  have : i - ((cs.take i).map dirI).length = 0 := by simp; omega
  rw [this]
  rfl
theorem dealD_zero (cs : List Int) (i : Nat) (h : i < cs.length) : ith (dealD cs 0) i = 0 := by
  unfold dealD ith
  rw [List.getD_eq_getElem?_getD]
  simp [h]
theorem dealD_len (cs : List Int) (i : Nat) (h : i ≤ cs.length) : (dealD cs i).length = cs.length := by unfold dealD; simp; omega
theorem dealD_all (cs : List Int) : dealD cs cs.length = cs.map dirI := by unfold dealD; simp
theorem baseF_bd (want : Int) : ∀ (f : Nat) (ds : List Int), baseF want f ds = 0 ∨ baseF want f ds = 1
  | 0, ds => .inl rfl
  | f + 1, ds => by
    rw [baseF]
    repeat' split
    all_goals first | exact .inl rfl | exact .inr rfl | exact baseF_bd want f _
theorem idx_find (ds : List Int) (v : Int) : ∀ (m i : Nat), i + m = ds.length → idxF ds v m i = (match (ds.drop i).findIdx? (fun d => d == v) with | none => -1 | some j => ((i + j : Nat) : Int))
  | 0, i, h => by
    rw [idxF, List.drop_eq_nil_iff.2 (by omega)]
    rfl
  | m + 1, i, h => by
    have hd : ds.drop i = ith ds i :: ds.drop (i + 1) := by
      rw [List.drop_eq_getElem_cons (by omega), ith, List.getD_eq_getElem?_getD, List.getElem?_eq_getElem (by omega)]; rfl
    rw [idxF, hd, List.findIdx?_cons]
    by_cases hv : ith ds i = v
    · rw [if_pos hv]
      have : (ith ds i == v) = true := by simpa using hv
      rw [this]
      simp
    · rw [if_neg hv, idx_find ds v m (i + 1) (by omega)]
      have : (ith ds i == v) = false := by simpa using hv
      rw [this]
      cases (ds.drop (i + 1)).findIdx? (fun d => d == v) with
      | none => rfl
      | some j => show (((i + 1 + j : Nat)) : Int) = (((i + (j + 1) : Nat)) : Int); omega
theorem para_len (ds : List Int) : paraLen ds = if idxF ds 10 ds.length 0 = -1 then ds.length else (idxF ds 10 ds.length 0 + 1).toNat := by
  rw [idx_find ds 10 ds.length 0 (by omega), List.drop_zero]
  unfold paraLen
  cases ds.findIdx? (fun d => d == 10) with
  | none => rfl
  | some j =>
    show j + 1 = if ((0 + j : Nat) : Int) = -1 then ds.length else (((0 + j : Nat) : Int) + 1).toNat
    rw [if_neg (by omega)]
    omega
theorem idxF_bd (ds : List Int) (v : Int) : ∀ (m i : Nat), idxF ds v m i = -1 ∨ ((i : Int) ≤ idxF ds v m i ∧ idxF ds v m i < i + m)
  | 0, i => .inl rfl
  | m + 1, i => by
    rw [idxF]
    split
    · right; omega
    · rcases idxF_bd ds v m (i + 1) with h | h
      · exact .inl h
      · right; omega
theorem rd_take {k : IntKind} {w : World} {a : Option Addr} {xs : List Int} (h : Rd k w a xs) (m : Nat) : Rd k w a (xs.take m) := by
  rcases h with rfl | ⟨b, off, e, hb, hc⟩
  · exact .inl (by simp)
  · refine .inr ⟨b, off, e, hb, fun i hi => ?_⟩
    rw [List.length_take] at hi
    rw [hc i (by omega)]
    congr 2
    unfold ith
    rw [List.getD_eq_getElem?_getD, List.getD_eq_getElem?_getD, List.getElem?_take, if_pos (by omega)]
def VLPost (cs : List Int) (want : Int) (n : Nat) (w : World) (e : Ending) (w' : World) : Prop :=
  ∃ a c, e = .returned (.tuple #[.slice a n c, .int .u8 (visualI cs want).2]) ∧ (visualI cs want).1.length = n ∧ OutAt .u8 5 w' w.heap.size a c (ints (visualI cs want).1) ∧ Below w.heap.size w w'
theorem ints_append (a b : List Nat) : ints (a ++ b) = ints a ++ ints b := by unfold ints; simp
theorem OutAt.news {k : IntKind} {e base cap G : Nat} {w : World} {out : List Int} (h : OutAt k e w base (some ⟨G, 0, none⟩) cap out) : ∀ j u, (out.map (Value.int k))[j]? = some u → w.cell? ((⟨G, 0, none⟩ : Addr).add j) = some u := fun j u hj => World.ownsRow.cells h (g := G) rfl j u hj
set_option maxRecDepth 100000 in
set_option maxHeartbeats 1000000 in
theorem VLevels_any (a : Option Addr) (cs : List Int) (n c : Nat) (want : Int) (w : World) (hl : cs.length = n) (hc : Rd .i32 w a cs) (hn : n ≤ 2097152) (hnc : n ≤ c) (hcm : c ≤ 9223372036854775807) :
    Calls Tryz.prog 77 #[.slice a n c, .int .i8 want] w (VLPost cs want n w) := by
  obtain ⟨i5, hi5, hz5, ha5, hb5⟩ := info_parts (Tryz.info_u8)
  obtain ⟨i40, hi40, hz40, ha40, hb40⟩ := info_parts (Tryz.info_i8)
  have HL := Lib.hid hl
  have hmk := run_make_row (P := Tryz.prog) 142 22 i40 (.int .i8 0) Tryz.underlying142 hi40 hz40 ha40 rfl .i64 .i64 n (by rw [hb40]; omega) (by omega)
  clear hl
  go_enter Tryz.func77, Tryz.ntmps77
  go_wp2_with (fail)
  clear hmk
  have hrow0 := World.rowIs_made w (.int .i8 0) n 22
  have hO0 : OutAt .i8 22 (w.alloc (.cells (madeCells #[.int .i8 0] n) 22)) w.heap.size (some ⟨w.heap.size, 0, none⟩) n (dealD cs 0) :=
    out_of_row (hrow0.congr fun i hi => by rw [dealD_zero cs i (by rw [HL.out]; exact hi)]) (by rw [dealD_len cs 0 (by omega)]; exact HL.out) (Nat.le_refl _) (by unfold maxLen; omega)
  have hb0 := (Below.refl w.heap.size w).alloc (Nat.le_refl _) (.cells (madeCells #[.int .i8 0] n) 22)
  clear hrow0
  go_loopw [7, 8, 17] (fun _ _ u wx => ∃ i : Nat, i ≤ n ∧ u = .int .i64 i ∧ OutAt .i8 22 wx w.heap.size (some ⟨w.heap.size, 0, none⟩) n (dealD cs i) ∧ Below w.heap.size w wx) (fun _ _ u _ => n - (intOf u).toNat)
  case atStart => exact ⟨0, by omega, rfl, hO0, hb0⟩
  case round =>
    obtain ⟨i, hi, rfl, hO, hbel⟩ := hrel
    clear hO0 hb0
    by_cases hlt : i < n
    · obtain ⟨Gc, co, rfl, hGc, hcc⟩ := hc.at hbel i (by rw [HL.out]; exact hlt)
      obtain ⟨G', hG', _, hGl, hXc, hXf, _, _⟩ := hO.at i (by rw [dealD_len cs i (by rw [HL.out]; exact hi), HL.out]; exact hlt)
      cases hG'
      have hnx := dealD_next cs i (by rw [HL.out]; exact hlt)
      obtain ⟨y, hy⟩ : ∃ y, ith cs i = y := ⟨_, rfl⟩
      rw [hy] at hcc hnx
      have HNX := Lib.hid hnx
      have HO := Lib.hid hO
      have HBE := Lib.hid hbel
      generalize ith (dealD cs i) i = vo at hXc
      have gi0 : (0 : Int) ≤ (i : Int) := by omega
      have gi1 : (i : Int) < (n : Int) := by omega
      clear hO hbel hy hnx
      go_wp2_with (go_at_call 100; refine (Dir_any y _).mono ?_; rintro e w2 ⟨rfl, hw2⟩; have hx2 := (hw2.cell (p := ⟨w.heap.size, i, none⟩) hGl).trans hXc; have hf2 := (hw2.frozen (p := ⟨w.heap.size, i, none⟩) hGl).trans hXf; have HW2 := Lib.hid hw2; clear hw2)
      have hO3 := (HO.out.keep HW2.out).set i (dirI y)
      rw [HNX.out] at hO3
      have hb3 : Below w.heap.size w (w2.setCell ⟨w.heap.size, i, none⟩ (.int .i8 (dirI y))) := (HBE.out.trans (HW2.out.mono HBE.out.size)).setCell (p := ⟨w.heap.size, i, none⟩) (Nat.le_refl _) _
      go_roundw
      case rel => exact ⟨i + 1, by omega, by go_num, hO3, hb3⟩
      case measure => simp [intOf]; omega
    · have hie : i = n := by omega
      rw [hie, ← HL.out, dealD_all, HL.out] at hO
      obtain ⟨ds, hds⟩ : ∃ ds, cs.map dirI = ds := ⟨_, rfl⟩
      rw [hds] at hO
      have hdl : ds.length = n := by rw [← hds, List.length_map, HL.out]
      obtain ⟨bs, hbs⟩ : ∃ bs : Nat, baseI ds want = bs := ⟨(baseI ds want).toNat, by rcases baseF_bd want (ds.length + 1) ds with h | h <;> (unfold baseI; omega)⟩
      have hb1 : bs ≤ 1 := by rcases baseF_bd want (ds.length + 1) ds with h | h <;> (unfold baseI at hbs; omega)
      have hV1 : (visualI cs want).1 = linesF bs n cs [] := by
        unfold visualI
        rw [hds, hbs, HL.out]
        rfl
      have hV2 : (visualI cs want).2 = bs := by
        unfold visualI
        rw [hds, hbs]
      have HBA := Lib.hid (Base_any want (some ⟨w.heap.size, 0, none⟩) ds n n wr hdl hO.rd hn (Nat.le_refl _) (by unfold maxLen; omega))
      rw [hbs] at HBA
      have HDS := Lib.hid hds
      have HDL := Lib.hid hdl
      have HV1 := Lib.hid hV1
      have HV2 := Lib.hid hV2
      have hszr : w.heap.size < wr.heap.size := hO.lt.2
      have hRd : Rd .i8 wr (some ⟨w.heap.size, 0, none⟩) ds := hO.rd
      have hie' : n = i := hie.symm
      subst hie'
      obtain ⟨V, hV⟩ : ∃ V, V = wr := ⟨_, rfl⟩
      subst hV
      clear hO hds hdl hbs hV1 hV2 hi hlt hie
      go_wp2_with (go_at_call 101; refine HBA.out.mono ?_; rintro e w' ⟨rfl, hw'⟩; have hw2 := hw'.symm; clear hw'; subst hw2)
      have HBW := Lib.hid hbel
      obtain ⟨FIN, hFIN⟩ : ∃ FIN, linesF bs n cs [] = FIN := ⟨_, rfl⟩
      have HFIN := Lib.hid hFIN
      clear hbel HBA hFIN
      go_loopw [0, 6, 10, 11] (fun u0 u6 u10 _ wx => ∃ (at' k f : Nat) (a0 d0 : Option Addr) (c0 e0 : Nat) (out : List Nat), at' + k = n ∧ u0 = .slice a0 k c0 ∧ u6 = .slice d0 k e0 ∧ k ≤ c0 ∧ c0 ≤ 9223372036854775807 ∧ k ≤ e0 ∧ e0 ≤ 9223372036854775807 ∧
          Rd .i32 w a0 (cs.drop at') ∧ Rd .i8 V d0 (ds.drop at') ∧ wx.ownsRow V.heap.size 5 1 u10 out.length ((ints out).map (Value.int .u8)) ∧ out.length = at' ∧ Below V.heap.size V wx ∧ linesF bs f (cs.drop at') out = FIN ∧ k ≤ f)
        (fun u0 _ _ _ _ => match u0 with | .slice _ k _ => k | _ => 0)
      case atStart => exact ⟨0, n, n, a, some ⟨w.heap.size, 0, none⟩, c, n, [], by omega, rfl, rfl, hnc, hcm, Nat.le_refl _, by omega, by rw [List.drop_zero]; exact hc, by rw [List.drop_zero]; exact hRd, World.ownsRow_nil _ _ _ _, rfl, Below.refl _ _, by rw [List.drop_zero]; exact HFIN.out, Nat.le_refl _⟩
      case round =>
        obtain ⟨at', k, f, a0, d0, c0, e0, out, hak, rfl, rfl, hkc, hc0, hke, he0, hr0, hrd0, hown, hol, hbV, hF, hkf⟩ := hrel
        obtain ⟨oa, oc, hov, hoc1, hoc2⟩ := own_slice hown
        subst hov
        have hcl : (cs.drop at').length = k := by rw [List.length_drop, HL.out]; omega
        have hdl2 : (ds.drop at').length = k := by rw [List.length_drop, HDL.out]; omega
        cases k with
        | zero =>
          have hnil : cs.drop at' = [] := List.eq_nil_of_length_eq_zero hcl
          have hfo : out = FIN := by
            rw [hnil] at hF
            cases f with
            | zero => exact hF
            | succ f => rw [linesF, if_pos rfl] at hF; exact hF
          have HOW := Lib.hid hown
          have HFO := Lib.hid hfo
          have HOL := Lib.hid hol
          clear hown hF hnil hcl hdl2 hr0 hrd0 hfo hol
          go_wp2_with (fail)
          go_ret2
          have h1 := HFO.out
          have h2 := HOL.out
          subst h1
          have hn2 : out.length = n := by omega
          have e1 : (visualI cs want).1 = out := HV1.out.trans HFIN.out
          refine ⟨oa, oc, by rw [HV2.out, hn2]; rfl, by rw [e1]; exact hn2, ?_, HBW.out.trans (hbV.mono (by omega))⟩
          rw [e1]
          unfold OutAt
          rw [ints_len]
          exact ownsRow_base HOW.out (by omega)
        | succ k' =>
          obtain ⟨k, hk⟩ : ∃ k, k' + 1 = k := ⟨_, rfl⟩
          have HOL := Lib.hid hol
          have hol1 : out.length ≤ n := by omega
          clear hol
          rw [hk] at hak hkc hke hcl hdl2 hkf ⊢
          have hkp : 0 < k := by omega
          obtain ⟨f', rfl⟩ : ∃ f', f = f' + 1 := ⟨f - 1, by omega⟩
          rw [linesF, if_neg (by intro e; rw [e] at hcl; simp at hcl; omega)] at hF
          have hmd : (cs.drop at').map dirI = ds.drop at' := by rw [List.map_drop, HDS.out]
          rw [hmd] at hF
          obtain ⟨q, hq⟩ : ∃ q, paraLen (ds.drop at') = q := ⟨_, rfl⟩
          rw [hq, List.map_take, hmd, List.drop_drop] at hF
          obtain ⟨r, hr⟩ : ∃ r, idxF (ds.drop at') 10 k 0 = r := ⟨_, rfl⟩
          have hrb := idxF_bd (ds.drop at') 10 k 0
          have hpl := para_len (ds.drop at')
          rw [hdl2, hr, hq] at hpl
          rw [hr] at hrb
          have hq1 : 0 < q ∧ q ≤ k := by
            rw [hpl]
            split
            · omega
            · rcases hrb with h | h
              · contradiction
              · omega
          obtain ⟨G, o, rfl, hGl, _⟩ := hr0.at (Below.refl _ _) 0 (by omega)
          obtain ⟨G2, o2, rfl, hGl2, _⟩ := hrd0.at (Below.refl _ _) 0 (by omega)
          have HIX := Lib.hid (Ix8_any (some ⟨G2, o2, none⟩) (ds.drop at') k e0 10 wr hdl2 (hrd0.below hbV) (by omega))
          rw [hr] at HIX
          obtain ⟨PP, hPP⟩ : ∃ PP, paraI ((cs.drop at').take q) ((ds.drop at').take q) bs = PP := ⟨_, rfl⟩
          have HPA := Lib.hid (fun W (hb : Below wr.heap.size wr W) => Para_any (some ⟨G, o, none⟩) (some ⟨G2, o2, none⟩) ((cs.drop at').take q) ((ds.drop at').take q) q c0 e0 bs W (by rw [List.length_take]; omega) (by rw [List.length_take]; omega)
            (rd_take (hr0.below (HBW.out.trans ((hbV.trans (hb.mono hbV.size)).mono (by omega)))) q) (rd_take (hrd0.below (hbV.trans (hb.mono hbV.size))) q) (by omega) (by omega) he0 (by omega))
          unfold ParPost at HPA
          rw [hPP] at HPA hF
          have HF := Lib.hid hF
          have HK := Lib.hid hk
          have HPL := Lib.hid hpl
          have HOW := Lib.hid hown
          clear hF hr hpl hPP hmd hq hk hown
          have hr10 : ((k : Int) > 0) := by omega
          go_upto_if 38 with (go_at_call 102; refine HIX.out.mono ?_; rintro e w' ⟨rfl, hw'⟩; have hw2 := hw'.symm; clear hw'; subst hw2)
          go_cut [11] (fun v wx => v = .int .i64 (q : Nat) ∧ wx = wr)
          case first =>
            have e := HPL.out
            by_cases hm : r = -1
            · subst hm
              rw [if_pos rfl] at e
              have HE := Lib.hid e
              clear e
              go_wp2_with (fail)
              go_meet
              exact ⟨by rw [HE.out], rfl⟩
            · rw [if_neg hm] at e
              have HE : Hid (r + 1 = q) := Lib.hid (by rcases hrb with h | h <;> omega)
              have h0 : ((r + 1) == 0) = false := by rw [beq_eq_false_iff_ne]; rcases hrb with h | h <;> omega
              clear e
              go_wp2_with (fail)
              go_meet
              exact ⟨by rw [HE.out], rfl⟩
          case rest =>
            obtain ⟨rfl, hwx⟩ := hcut
            have hwx' := hwx.symm
            clear hwx
            subst hwx'
            have gq0 : (0 : Int) ≤ (q : Int) := by omega
            have gq1 : (q : Int) ≤ (k : Int) := by omega
            have gq2 : (q : Int) ≤ (c0 : Int) := by omega
            have gq3 : (q : Int) ≤ (e0 : Int) := by omega
            go_upto_region 13 with (fail)
            go_region_held3 (fun w' => True) (trivial) (first | (go_at_call 103; refine (HPA.out wr.drew (bl_drewN (Below.refl _ _) 1)).mono ?_; rintro e w3 ⟨pa, pc, rfl, hpl, hPO, hb3⟩; obtain ⟨Gp, hGp, _, _, _⟩ := OutAt.at hPO 0 (by rw [ints_len, hpl]; exact hq1.1); subst hGp; have hbW := (bl_drewN (Below.refl wr.heap.size wr) 1).trans hb3; have HPP := Lib.hid hPO; have HB3 := Lib.hid hbW; have hs3 := hbW.size; clear hPO hb3 hbW) | (refine step_append_lies _ (by rfl) _ _ _ (by rfl) V.heap.size 5 i5 (.int .u8 0) 1 1 Tryz.underlying42 hi5 hz5 ha5 hb5 rfl (by decide) (.slice oa out.length oc) out.length ((ints out).map (Value.int .u8)) (by rfl) (by first | exact ownsRow_keep HOW.out HB3.out | exact World.ownsRow.drew (ownsRow_keep HOW.out HB3.out)) ⟨Gp, 0, none⟩ q pc ((ints PP).map (Value.int .u8)) (by rfl) (by rw [List.length_map, ints_len, hpl, Nat.mul_one]) (by exact OutAt.news HPP.out) (by intro u hu; rw [List.mem_map] at hu; obtain ⟨x, _, rfl⟩ := hu; rfl) hq1.1 (by unfold maxLen; omega) (by omega) (by exact Nat.le_trans hbV.size hs3) _ rfl ?_; intro gg cap4 w4 hown4 hg4 hat4 hlt4))
            all_goals
              have hrow4 : w4.ownsRow V.heap.size 5 1 (.slice (some ⟨gg, 0, none⟩) (out.length + q) cap4) (out ++ PP).length ((ints (out ++ PP)).map (Value.int .u8)) := by
                rw [List.length_append, hpl, ints_append, List.map_append]; exact hown4
              have hbel4 : Below V.heap.size V w4 := (hbV.trans (HB3.out.mono hbV.size)).grown hg4 (by exact Nat.le_trans hbV.size hs3) (fun g e => (World.ownsRow.lt HOW.out g e).1)
              have hRA : ∀ ad, ad = some ⟨G, o + q, none⟩ ∨ q = k → Rd .i32 w ad (cs.drop (at' + q)) := fun ad had => by
                rcases had with rfl | rfl
                · have := rd_drop hr0 q
                  rwa [List.drop_drop] at this
                · exact .inl (by rw [List.drop_eq_nil_iff, HL.out]; omega)
              have hRB : ∀ ad, ad = some ⟨G2, o2 + q, none⟩ ∨ q = k → Rd .i8 V ad (ds.drop (at' + q)) := fun ad had => by
                rcases had with rfl | rfl
                · have := rd_drop hrd0 q
                  rwa [List.drop_drop] at this
                · exact .inl (by rw [List.drop_eq_nil_iff, HDL.out]; omega)
              have HR4 := Lib.hid hrow4
              have HB4 := Lib.hid hbel4
              have HRA := Lib.hid hRA
              have HRB := Lib.hid hRB
              have hlen4 : (out ++ PP).length = at' + q := by rw [List.length_append, hpl, HOL.out]
              have HL4 := Lib.hid hlen4
              clear hrow4 hbel4 hRA hRB hlen4 hown4 hg4 hat4 hr0 hrd0 hb1
              by_cases hcq : c0 = q
              · by_cases heq : e0 = q
                · go_wp2_with (fail)
                  go_quiet (fail)
                  go_wp2_with (fail)
                  go_roundw
                  case rel => exact ⟨at' + q, k - q, f', _, _, _, _, out ++ PP, by omega, rfl, rfl, by omega, by omega, by omega, by omega, HRA.out _ (.inr (by omega)), HRB.out _ (.inr (by omega)), HR4.out, HL4.out, bl_drewN HB4.out _, HF.out, by omega⟩
                  case measure => show k - q < k; omega
                · go_wp2_with (fail)
                  go_quiet (fail)
                  go_wp2_with (fail)
                  go_roundw
                  case rel => exact ⟨at' + q, k - q, f', _, _, _, _, out ++ PP, by omega, rfl, rfl, by omega, by omega, by omega, by omega, HRA.out _ (.inr (by omega)), HRB.out _ (.inr (by omega)), HR4.out, HL4.out, bl_drewN HB4.out _, HF.out, by omega⟩
                  case measure => show k - q < k; omega
              · by_cases heq : e0 = q
                · go_wp2_with (fail)
                  go_quiet (fail)
                  go_wp2_with (fail)
                  go_roundw
                  case rel => exact ⟨at' + q, k - q, f', _, _, _, _, out ++ PP, by omega, rfl, rfl, by omega, by omega, by omega, by omega, HRA.out _ (.inr (by omega)), HRB.out _ (.inr (by omega)), HR4.out, HL4.out, bl_drewN HB4.out _, HF.out, by omega⟩
                  case measure => show k - q < k; omega
                · go_wp2_with (fail)
                  go_quiet (fail)
                  go_wp2_with (fail)
                  go_roundw
                  case rel => exact ⟨at' + q, k - q, f', _, _, _, _, out ++ PP, by omega, rfl, rfl, by omega, by omega, by omega, by omega, HRA.out _ (.inl rfl), HRB.out _ (.inl rfl), HR4.out, HL4.out, bl_drewN HB4.out _, HF.out, by omega⟩
                  case measure => show k - q < k; omega
end
end Go.Proofs.YtlbclfmbejjneaaGreatDoor
