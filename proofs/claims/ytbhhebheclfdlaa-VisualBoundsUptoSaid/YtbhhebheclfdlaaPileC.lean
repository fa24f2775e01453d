/- Contracts of the pile's methods: lay, close, end, embed. -/
import Derived.Test.YtbhhebheclfdlaaPileB
namespace Go.Proofs.Ytbhhebheclfdlaa
set_option linter.unusedVariables false
set_option linter.unusedSimpArgs false
open Go.RowKit

theorem Try.info_state : (Try.prog.info? 87).map (fun i => (i.zero, i.size, i.bytes)) = some (some (.agg #[.int .u8 0, .int .i8 0, .bool false]), 3, 3) := by kernel_rfl
theorem bits_even (l : Nat) (h : l ≤ 125) : bits .andNot .u8 ((l : Int) + 2) 1 = (((l + 2) / 2 * 2 : Nat) : Int) := by
  have : ∀ k : Fin 126, bits .andNot .u8 (((k : Nat) : Int) + 2) 1 = ((((k : Nat) + 2) / 2 * 2 : Nat) : Int) := by decide
  exact this ⟨l, by omega⟩
theorem bits_odd (l : Nat) (h : l ≤ 125) : bits .or .u8 ((l : Int) + 1) 1 = (((l + 1) / 2 * 2 + 1 : Nat) : Int) := by
  have : ∀ k : Fin 126, bits .or .u8 (((k : Nat) : Int) + 1) 1 = ((((k : Nat) + 1) / 2 * 2 + 1 : Nat) : Int) := by decide
  exact this ⟨l, by omega⟩
def PilePost (w : World) (base p R : Nat) (P : LPile) (v : Value) (e : Ending) (w' : World) : Prop :=
  e = .returned v ∧ ∃ R', PileAt w' base p R' P ∧ (R' = R ∨ w.heap.size ≤ R') ∧ Keep2 p R w w'
set_option maxRecDepth 100000 in
set_option maxHeartbeats 400000 in
theorem lay_any (w : World) (base p R : Nat) (P : LPile) (odd : Bool) (over : Int) (iso : Bool) (h : PileAt w base p R P) (hne : 0 < P.states.length) (hlv : P.top.level ≤ 125) (hlen : P.states.length ≤ 2097153) :
    Calls Try.prog 62 #[.pointer (some ⟨p, 0, none⟩), .bool odd, .int .i8 over, .bool iso] w (PilePost w base p R (P.lay odd over iso) (.bool (P.room odd))) := by
  obtain ⟨i3, hi3, hz3, ha3, hb3⟩ := info_parts (Try.info_state)
  have ht := fun W (hb : Below w.heap.size w W) => top_any W base p R P (h.keep hb) hne
  obtain ⟨n, hn⟩ : ∃ n, P.next odd = n := ⟨_, rfl⟩
  have hnx : n = if odd = true then (P.top.level + 1) / 2 * 2 + 1 else (P.top.level + 2) / 2 * 2 := by rw [← hn]; rfl
  unfold stV at ht
  have HP := Lib.hid h
  have HT := Lib.hid ht
  have HNX := Lib.hid hnx
  have HN := Lib.hid hn
  clear ht h hnx hn
  generalize P.top = s at HT HNX hlv
  obtain ⟨l, o, b⟩ := s
  simp only at hlv HNX
  have hf1 := st_field0 (.int .u8 l) (.int .i8 o) (.bool b)
  go_enter Try.func62, Try.ntmps62
  go_upto_region 2 with (go_at_call 59; refine (HT.out w (Below.refl _ _)).mono ?_; rintro e w1 ⟨rfl, hw1⟩)
  go_upto_if 15 with (fail)
  go_cut [9] (fun t wx => t = .int .u8 n ∧ Below w.heap.size w wx)
  case first =>
    have e1 := bits_even l hlv
    have e2 := bits_odd l hlv
    cases odd with
    | true =>
      go_upto_region 3 with (fail)
      go_wp2_with (go_at_call 59; refine (HT.out w1 hw1).mono ?_; rintro e w2 ⟨rfl, hw2⟩)
      go_meet
      have hnn : (n : Int) = ((l : Int) + 1) / 2 * 2 + 1 := by rw [HNX.out, if_pos trivial]; omega
      exact ⟨by rw [hnn], hw1.trans (hw2.mono hw1.size)⟩
    | false =>
      go_wp2_with (fail)
      go_meet
      have hnn : (n : Int) = ((l : Int) + 2) / 2 * 2 := by rw [HNX.out, if_neg (by simp)]; omega
      exact ⟨congrArg (Value.int .u8) (by rw [e1]; omega), hw1⟩
  case rest =>
    obtain ⟨rfl, hbx⟩ := hcut
    obtain ⟨N, cap, hp, hR, hb1, hb2, hne', hlc, hcm, hcN⟩ := HP.out.keep hbx
    have HK : Hid (PileAt wc base p R P) := HP.out.keep hbx
    obtain ⟨c0, c1, c2, c3, fr, hpl⟩ := pile_cells hp
    have f0 := fr 0
    have hroom : P.room odd = (decide (n ≤ 125) && decide (P.deep = 0) && decide (P.emb = 0)) := by unfold LPile.room; rw [HN.out]
    have hlay : P.lay odd over iso = if P.room odd = true then { P with states := P.states ++ [⟨n, over, iso⟩] } else P := by unfold LPile.lay; rw [HN.out]
    have HROOM := Lib.hid hroom
    have HLAY := Lib.hid hlay
    clear hroom hlay
    by_cases hr : n ≤ 125 ∧ P.deep = 0 ∧ P.emb = 0
    · obtain ⟨hr1, hr2, hr3⟩ := hr
      have hrt : P.room odd = true := by rw [HROOM.out]; simp [hr1, hr2, hr3]
      rw [hr2] at c2
      rw [hr3] at c3
      have hr1' : ¬ (125 : Int) < (n : Int) := by omega
      have HRT := Lib.hid hrt
      have HPC := Lib.hid hp
      have HRR := Lib.hid hR
      clear hrt hr2 hr3 hp hR
      go_upto_region 6 with (fail)
      go_wp2_with (at_builtin; refine wpList_append_head _ rfl _ _ 89 rfl 87 i3 _ 3 3 Try.underlying89 hi3 hz3 ha3 hb3 rfl (by decide) R N P.states.length cap (P.states.flatMap scell) rfl (HRR.out.kept (Below.heap_alloc _ _ _ HRR.out.lt)) (flat_len _ scell 3 (fun _ => rfl)) hcN hcm ⟨wc.heap.size, 0, none⟩ 1 1 (scell ⟨n, over, iso⟩) rfl rfl (World.news_of_block (cs := (scell ⟨n, over, iso⟩).toArray) (t := 87) (fr := (0, 0)) (heap_alloc_new _ _)) (by simp [scell, Value.oneCell']) (by omega) (by unfold maxLen; omega) (by omega) ?_; intro w3 R' N' cap' h1 h2 h3 h4 h5 h6; have hp3 := (h6.block p (by rw [World.size_alloc]; omega) (by simp; omega)).trans ((Below.heap_alloc _ _ _ hpl).trans HPC.out); obtain ⟨x0, _, _, _, xf, _⟩ := pile_cells hp3; have xf0 := xf 0; have H3 := Lib.hid hp3; have H1 := Lib.hid h1; have H6 := Lib.hid h6; clear hp3 h1 h6)
      go_ret
      have hR' : base ≤ R' ∧ R' ≠ p := by
        rw [World.size_alloc] at h5
        rcases h5 with e | e
        · rw [e]; exact ⟨hb2, hne'⟩
        · omega
      have hfl : ({ P with states := P.states ++ [⟨n, over, iso⟩] } : LPile).states.flatMap scell = P.states.flatMap scell ++ scell ⟨n, over, iso⟩ := by
        show (P.states ++ [(⟨n, over, iso⟩ : LSt)]).flatMap scell = _
        rw [List.flatMap_append, List.flatMap_singleton]
      refine ⟨by rw [HRT.out]; rfl, R', ?_, ?_, ?_⟩
      · rw [HLAY.out, if_pos HRT.out]
        refine ⟨N', cap', ?_, ?_, hb1, hR'.1, hR'.2, ?_, h3, h4⟩
        · have := pile_set0 (v := .slice (some ⟨R', 0, none⟩) (P.states.length + 1) cap') H3.out
          simpa using this
        · rw [hfl]
          exact row_set_other H1.out hR'.2
        · show (P.states ++ [(⟨n, over, iso⟩ : LSt)]).length ≤ cap'
          rw [List.length_append, List.length_singleton]; exact h2
      · rw [World.size_alloc] at h5
        have := hbx.size
        rcases h5 with e | e
        · exact .inl e
        · right; omega
      · exact (((Keep2.of hbx).alloc _).grown H6.out (fun k hk => .inr (.inl (by cases hk; rfl)))).set 0 _
    · have hrf : P.room odd = false := by
        rw [HROOM.out]
        by_cases h1 : n ≤ 125
        · by_cases h2 : P.deep = 0
          · have h3 : ¬ P.emb = 0 := fun h3 => hr ⟨h1, h2, h3⟩
            simp [h3]
          · simp [h2]
        · simp [h1]
      have hend : ∀ q, PilePost w base p R (P.lay odd over iso) (.bool (P.room odd)) (.returned (.bool false)) (wc.drewN q) := fun q =>
        ⟨by rw [hrf], R, by rw [HLAY.out, if_neg (by rw [hrf]; decide)]; exact HK.out.keep (bl_drewN (Below.refl _ _) q), .inl rfl, Keep2.of (bl_drewN hbx q)⟩
      have HE := Lib.hid hend
      clear hend hrf hp hR
      by_cases h1 : n ≤ 125
      · have h1' : ¬ (125 : Int) < (n : Int) := by omega
        by_cases h2 : P.deep = 0
        · have h3 : 0 < P.emb := by omega
          rw [h2] at c2
          clear hr
          go_wp2_with (fail)
          go_ret
          exact HE.out 0
        · have h2' : 0 < P.deep := by omega
          clear hr
          go_wp2_with (fail)
          go_ret
          exact HE.out 0
      · have h1' : (125 : Int) < (n : Int) := by omega
        clear hr
        go_wp2_with (fail)
        go_ret
        exact HE.out 0
end Go.Proofs.Ytbhhebheclfdlaa
