/- Contract of weak.Resolve: of any kinds and direction ahead what the seven rules make of them, in a list of its own. -/
import Derived.Test.YtbhhebheclfdlaaWeakT
import Derived.Deep.OwnRows
namespace Go.Proofs.Ytbhhebheclfdlaa
set_option linter.unusedVariables false
set_option linter.unusedSimpArgs false
open Go.RowKit

theorem Try.info_i8 : (Try.prog.info? 40).map (fun i => (i.zero, i.size, i.bytes)) = some (some (.int .i8 0), 1, 1) := by kernel_rfl
def BeganPost (ks : List Int) (sos : Int) (w : World) (e : Ending) (w' : World) : Prop :=
  ∃ ao cap, e = .returned (.tuple #[.slice ao ks.length cap, .int .i8 (if sos = 1 then 1 else 0)]) ∧ OutAt .i8 40 w' w.heap.size ao cap (ks.map lkn) ∧ Below w.heap.size w w'
/-- the first i places as they are to be, the rest as they were made -/
def begF (ks : List Int) (i : Nat) : List Int := (ks.take i).map lkn ++ List.replicate (ks.length - i) 0
theorem begF_next (ks : List Int) (i : Nat) (h : i < ks.length) : (begF ks i).set i (lkn (ith ks i)) = begF ks (i + 1) := by
  unfold begF
  have e : ks[i] = ith ks i := by rw [ith, List.getD_eq_getElem?_getD, List.getElem?_eq_getElem h]; rfl
  rw [List.take_succ_eq_append_getElem h, List.map_append, e, List.append_assoc, show ks.length - i = (ks.length - (i + 1)) + 1 by omega, List.replicate_succ]
  rw [List.set_append_right _ _ (by simp; omega)]
  congr 1
  have : i - ((ks.take i).map lkn).length = 0 := by simp; omega
  rw [this]
  rfl
theorem begF_zero (ks : List Int) (i : Nat) (h : i < ks.length) : ith (begF ks 0) i = 0 := by
  unfold begF ith
  rw [List.getD_eq_getElem?_getD]
  simp [h]
theorem begF_len (ks : List Int) (i : Nat) (h : i ≤ ks.length) : (begF ks i).length = ks.length := by
  unfold begF; simp; omega
set_option maxHeartbeats 1000000 in
theorem began_any (ka : Option Addr) (ks : List Int) (kc : Nat) (sos : Int) (w : World) (hk : Rd .i8 w ka ks) (hkn : ks.length ≤ 2097152) :
    Calls Try.prog 74 #[.slice ka ks.length kc, .int .i8 sos] w (BeganPost ks sos w) := by
  obtain ⟨i40, hi40, hz40, ha40, hb40⟩ := info_parts (Try.info_i8)
  go_enter Try.func74, Try.ntmps74
  have hmk := run_make_row (P := Try.prog) 52 40 i40 (.int .i8 0) Try.underlying52 hi40 hz40 ha40 rfl .i64 .i64 ks.length (by rw [hb40]; omega) (by omega)
  go_wp2_with (fail)
  clear hmk
  have hrow0 := World.rowIs_made w (.int .i8 0) ks.length 40
  have hO0 : OutAt .i8 40 (w.alloc (.cells (madeCells #[.int .i8 0] ks.length) 40)) w.heap.size (some ⟨w.heap.size, 0, none⟩) ks.length (begF ks 0) :=
    out_of_row (hrow0.congr fun i hi => by rw [begF_zero ks i hi]) (begF_len ks 0 (by omega)) (Nat.le_refl _) (by unfold maxLen; omega)
  have hb0 := (Below.refl w.heap.size w).alloc (Nat.le_refl _) (.cells (madeCells #[.int .i8 0] ks.length) 40)
  clear hrow0
  go_loopw [14] (fun c wx => ∃ i : Nat, i ≤ ks.length ∧ c = .int .i64 i ∧ OutAt .i8 40 wx w.heap.size (some ⟨w.heap.size, 0, none⟩) ks.length (begF ks i) ∧ Below w.heap.size w wx) (fun c _ => ks.length - (intOf c).toNat)
  case atStart => exact ⟨0, by omega, rfl, hO0, hb0⟩
  case round =>
    obtain ⟨i, hi, rfl, hO, hbel⟩ := hrel
    clear hO0 hb0
    by_cases hlt : i < ks.length
    · obtain ⟨kb, ko, rfl, hkb, hkc⟩ := hk.at hbel i hlt
      obtain ⟨G, hG, hGb, hGl, hGc, hGf, _, _⟩ := hO.at i (by rw [begF_len ks i hi]; exact hlt)
      cases hG
      have hnext := begF_next ks i hlt
      generalize hy : ith ks i = y at hkc hnext
      have hb2 := hbel.setCell (p := ⟨w.heap.size, i, none⟩) (Nat.le_refl _) (.int .i8 (lkn y))
      have hO2 := hO.set i (lkn y)
      rw [hnext] at hO2
      have HO2 := Lib.hid hO2
      have HB2 := Lib.hid hb2
      clear hnext hO2 hb2 hy
      by_cases hbad : y < 0 ∨ 22 < y
      · have e : lkn y = 13 := if_pos hbad
        rw [e] at HO2 HB2
        rcases hbad with hbad | hbad
        · clear e
          go_wp2_with (fail)
          go_roundw
          case rel => exact ⟨i + 1, by omega, by go_num, HO2.out, HB2.out⟩
          case measure => simp [intOf]; omega
        · have h0 : ¬ y < 0 := by omega
          clear e
          go_wp2_with (fail)
          go_roundw
          case rel => exact ⟨i + 1, by omega, by go_num, HO2.out, HB2.out⟩
          case measure => simp [intOf]; omega
      · have e : lkn y = y := if_neg hbad
        rw [e] at HO2 HB2
        have h0 : ¬ y < 0 := by omega
        have h1 : ¬ 22 < y := by omega
        clear e hbad
        go_wp2_with (fail)
        go_roundw
        case rel => exact ⟨i + 1, by omega, by go_num, HO2.out, HB2.out⟩
        case measure => simp [intOf]; omega
    · have hie : i = ks.length := by omega
      have hfin : begF ks i = ks.map lkn := by unfold begF; rw [hie, List.take_length, Nat.sub_self, List.replicate_zero, List.append_nil]
      rw [hfin] at hO
      have HIE := Lib.hid hie
      clear hie hfin
      by_cases h1 : sos = 1
      · subst h1
        go_wp2_with (fail)
        go_ret2
        exact ⟨_, _, rfl, hO, hbel⟩
      · have hb : (sos != 1) = true := by simpa using h1
        go_wp2_with (fail)
        go_ret2
        exact ⟨_, _, by rw [if_neg h1]; rfl, hO, hbel⟩
end Go.Proofs.Ytbhhebheclfdlaa
