/- Contract of shuttlelaw14.works. Condition: utf8's two tables and math/bits' table stand where start-up lays them. -/
import Derived.Test.YtphlhnkenehnnaaGreatDoorRowsW
namespace Go.Proofs.YtphlhnkenehnnaaGreatDoor
set_option linter.unusedVariables false
set_option linter.unusedSimpArgs false
open Go.RowKit Go.Proofs Go.Shelf
attribute [local go_sem] Oper.semAt_some

theorem works_c1 : rowsI ⟨#[97, 98, 32, 99, 100, 32, 101, 102, 10]⟩ 5 0 0 false false = [⟨0, 6, 0, 5, 2⟩, ⟨6, 2, 0, 2, 1⟩] := by decide +kernel
theorem works_c2 : (rowsI ⟨#[97, 98, 99, 100, 101, 102]⟩ 4 0 0 false false).length = 2 := by decide +kernel
theorem works_c3 : (rowsI ⟨#[97]⟩ 0 0 0 false false) = [] := by decide +kernel
def wRows : List RowV := [⟨0, 6, 0, 5, 2⟩, ⟨6, 2, 0, 2, 1⟩]
theorem wRows_new (W : World) (t : Nat) : RdR (W.alloc (.cells #[.int .i64 0, .int .i64 6, .int .u8 0, .int .i64 5, .int .i8 2, .int .i64 6, .int .i64 2, .int .u8 0, .int .i64 2, .int .i8 1] t)) (some ⟨W.heap.size, 0, none⟩) wRows := by
  refine .inr ⟨W.heap.size, 0, rfl, by rw [World.size_alloc]; omega, fun i r hi k v hv => ?_⟩
  have h := World.cell?_alloc_mark W #[.int .i64 0, .int .i64 6, .int .u8 0, .int .i64 5, .int .i8 2, .int .i64 6, .int .i64 2, .int .u8 0, .int .i64 2, .int .i8 1] t (0, 0) (i * 5 + k)
  rw [Nat.zero_add]
  refine h.trans ?_
  exact flat5_get wRows i r hi k v hv ▸ by simp [wRows, rcell]
theorem works_c4 : atI (atsOf wRows) 6 true = 0 := by decide +kernel
theorem works_c5 : atI (atsOf wRows) 6 false = 1 := by decide +kernel
set_option maxHeartbeats 1000000 in
theorem works_any (w : World) (hT : T8 w) (hD : DB w) : Calls Tryz.prog 13 #[] w fun e w' => e = .returned (.bool true) ∧ Below w.heap.size w w' := by
  have HR1 := Lib.hid (Rows_any ⟨#[97, 98, 32, 99, 100, 32, 101, 102, 10]⟩ 5 0 0 false false false w hT hD)
  rw [works_c1] at HR1
  have HT : Hid (∀ W, Below w.heap.size w W → T8 W) := Lib.hid fun W hb => hT.below rfl hb
  have HD : Hid (∀ W, Below w.heap.size w W → DB W) := Lib.hid fun W hb => hD.below hb
  go_enter Tryz.func13, Tryz.ntmps13
  go_upto_region 2 with (go_at_call 10; refine HR1.out.mono ?_; rintro e w1 ⟨pa, cap, rfl, hown, hb1⟩)
  have hrd : RdR w1 pa wRows := OwnR.rd hown
  have HSM : Hid (∀ W, W = w1.alloc (.cells #[.int .i64 0, .int .i64 6, .int .u8 0, .int .i64 5, .int .i8 2, .int .i64 6, .int .i64 2, .int .u8 0, .int .i64 2, .int .i8 1] 30) → Calls Tryz.prog 11 #[.slice pa 2 cap, .slice (some ⟨w1.heap.size, 0, none⟩) 2 2] W fun e w' => e = .returned (.bool true) ∧ Below w1.heap.size w1 w') :=
    Lib.hid fun W hW => by
      subst hW
      refine (same_any pa (some ⟨w1.heap.size, 0, none⟩) cap 2 2 2 wRows wRows rfl rfl (by omega) (by omega) _ (hrd.below ((Below.refl w1.heap.size w1).alloc (Nat.le_refl _) _)) (wRows_new w1 _)).mono ?_
      rintro e w' ⟨h1, d, h2⟩
      rw [decide_eq_true rfl] at h1
      exact ⟨h1, h2 ▸ bl_drewN ((Below.refl w1.heap.size w1).alloc (Nat.le_refl _) _) d⟩
  have HCN : Hid (∀ W, Below w1.heap.size w1 W → Calls Tryz.prog 12 #[.string ⟨#[97, 98, 99, 100, 101, 102]⟩, .int .i64 4, lookV 0 0 false false false] W fun e w' => e = .returned (.int .i64 2) ∧ Below w1.heap.size w1 w') :=
    Lib.hid fun W hb => by
      refine (Count_any _ 4 0 0 false false false W (HT.out W (hb1.trans (hb.mono hb1.size))) (HD.out W (hb1.trans (hb.mono hb1.size)))).mono ?_
      rintro e w' ⟨h1, h2⟩
      rw [works_c2] at h1
      exact ⟨h1, hb.trans (h2.mono hb.size)⟩
  have HAT : Hid (∀ (k : Int) (bk : Bool) W, atI (atsOf wRows) 6 bk = k → Below w1.heap.size w1 W → Calls Tryz.prog 14 #[.slice pa 2 cap, .agg #[.int .i64 6, .bool bk, .int .i64 0]] W fun e w' => e = .returned (.int .i64 k) ∧ Below w1.heap.size w1 w') :=
    Lib.hid fun k bk W hk hb => by
      refine (At_any pa cap 2 wRows rfl (by omega) 6 0 bk W (hrd.below hb)).mono ?_
      rintro e w' ⟨h1, h2⟩
      rw [hk] at h1
      exact ⟨h1, hb.trans (h2.mono hb.size)⟩
  have HA0 := Lib.hid (fun W hb => HAT.out 0 true W works_c4 hb)
  have HA1 := Lib.hid (fun W hb => HAT.out 1 false W works_c5 hb)
  clear HAT
  have HR0 : Hid (∀ W, Below w1.heap.size w1 W → Calls Tryz.prog 10 #[.string ⟨#[97]⟩, .int .i64 0, lookV 0 0 false false false] W fun e w' => ∃ qa qc, e = .returned (.slice qa 0 qc) ∧ Below w1.heap.size w1 w') :=
    Lib.hid fun W hb => by
      refine (Rows_any _ 0 0 0 false false false W (HT.out W (hb1.trans (hb.mono hb1.size))) (HD.out W (hb1.trans (hb.mono hb1.size)))).mono ?_
      rintro e w' ⟨qa, qc, h1, _, h2⟩
      rw [works_c3] at h1
      exact ⟨qa, qc, h1, hb.trans (h2.mono hb.size)⟩
  have HB1 := Lib.hid hb1
  clear hrd hown hb1 hT hD HR1
  go_wp2_with (first
    | (go_at_call 11; refine (HSM.out _ rfl).mono ?_; rintro e w2 ⟨rfl, hb2⟩)
    | (go_at_call 12; refine (HCN.out _ hb2).mono ?_; rintro e w3 ⟨rfl, hb3⟩)
    | (go_at_call_has 14 (Value.agg #[.int .i64 6, .bool true, .int .i64 0]); refine (HA0.out _ hb3).mono ?_; rintro e w4 ⟨rfl, hb4⟩)
    | (go_at_call_has 14 (Value.agg #[.int .i64 6, .bool false, .int .i64 0]); refine (HA1.out _ hb4).mono ?_; rintro e w5 ⟨rfl, hb5⟩)
    | (go_at_call 10; refine (HR0.out _ hb5).mono ?_; rintro e w6 ⟨qa, qc, rfl, hb6⟩))
  go_ret
  exact ⟨rfl, HB1.out.trans (hb6.mono HB1.out.size)⟩
end Go.Proofs.YtphlhnkenehnnaaGreatDoor
