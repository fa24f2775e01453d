/- Contract of show.Text. Conditions: utf8's two tables and the table of trailing zeros stand where start-up lays them. -/
import Derived.Test.YtlbclfmbejjneaaGreatDoorSpecW
import Derived.Laws.IdiomStrings
import Derived.Laws.RangeAny
namespace Go.Proofs.YtlbclfmbejjneaaGreatDoor
set_option linter.unusedVariables false
set_option linter.unusedSimpArgs false
open Go.RowKit Go.Proofs Go.Shelf
attribute [local go_sem] Oper.semAt_some

theorem runes_conv (s : ByteArray) : ∀ (f i : Nat) (acc : Array Value), Conv.runesFrom s f i acc = acc ++ ((runesF s f i).map (Value.int .i32)).toArray
  | 0, i, acc => by simp [Conv.runesFrom, runesF]
  | f + 1, i, acc => by
    rw [Conv.runesFrom, runesF]
    split
    · show Conv.runesFrom s f (i + (Utf8.decode s i).2) (acc.push (.int .i32 ((Utf8.decode s i).1 : Int))) = _
      rw [runes_conv s f, List.map_cons]
      simp
    · simp
theorem runesF_len (s : ByteArray) : ∀ (f i : Nat), (runesF s f i).length ≤ f
  | 0, i => Nat.le_refl _
  | f + 1, i => by
    rw [runesF]
    split
    · rw [List.length_cons]; exact Nat.succ_le_succ (runesF_len s f _)
    · exact Nat.zero_le _
theorem runesI_pos (s : ByteArray) (h : 0 < s.size) : 0 < (runesI s).length ∧ ith (runesI s) 0 = ((Utf8.decode s 0).1 : Int) := by
  unfold runesI
  obtain ⟨k, hk⟩ : ∃ k, s.size = k + 1 := ⟨s.size - 1, by omega⟩
  rw [hk, runesF, if_pos h]
  exact ⟨by simp, rfl⟩
theorem runes_rd (W : World) (s : ByteArray) (t g : Nat) :
    Rd .i32 (W.drew.alloc (.cells (Conv.runesFrom s s.size 0 #[] ++ Array.replicate g (.int .i32 0)) t)) (some ⟨W.heap.size, 0, none⟩) (runesI s) := by
  refine .inr ⟨W.heap.size, 0, rfl, by rw [World.size_alloc]; exact Nat.lt_succ_self _, fun i hi => ?_⟩
  rw [runes_conv]
  have h0 : (W.drew.alloc (.cells (#[] ++ ((runesF s s.size 0).map (Value.int .i32)).toArray ++ Array.replicate g (.int .i32 0)) t)).heap[W.heap.size]? = _ := World.alloc_heap_new W.drew _
  have h1 : (runesI s)[i]? = some (ith (runesI s) i) := ith_get hi
  unfold runesI at h1 hi ⊢
  simp only [World.cell?, h0]
  simp only [Nat.zero_add, Array.empty_append]
  rw [Array.getElem?_append_left (by simpa using hi)]
  simp [h1]
/-- a string made into characters -/
theorem conv_str (d : ByteArray) (hz : d.size ≤ 16777216) :
    ∃ (C : World → Nat) (F : World → World), (∀ w, (convert 9 82 (.string d)).run Tryz.prog w = .ok (.slice (some ⟨w.heap.size, 0, none⟩) (runesI d).length (C w)) (F w)) ∧
      ∀ w, Below w.heap.size w (F w) ∧ Rd .i32 (F w) (some ⟨w.heap.size, 0, none⟩) (runesI d) ∧ (runesI d).length ≤ C w := by
  have hs : Conv.runesFrom d d.size 0 #[] = ((runesI d).map (Value.int .i32)).toArray := by
    rw [runes_conv]; unfold runesI; simp
  have hsz : (Conv.runesFrom d d.size 0 #[]).size = (runesI d).length := by rw [hs]; simp
  have hle := runesF_len d d.size 0
  refine ⟨fun w => grownCap w (runesI d).length 0 21, fun w => w.drew.alloc (.cells (Conv.runesFrom d d.size 0 #[] ++ Array.replicate (grownCap w (runesI d).length 0 21 - (runesI d).length) (.int .i32 0)) 21), fun w => ?_, fun w => ⟨?_, ?_, ?_⟩⟩
  · have := run_runes_of_string (P := Tryz.prog) w 9 82 21 d Tryz.underlying9 Tryz.underlying82 Tryz.underlying21 (by rw [hsz]; unfold runesI; omega)
    rw [this, hsz]
  · exact (Below.refl _ _).drew.alloc (Nat.le_refl _) _
  · exact runes_rd w d 21 _
  · exact grownCap_ge w (runesI d).length 0 21
theorem conv_two (W : World) (x y : Int) : (convert 42 9 (.slice (some ⟨W.heap.size, 0, none⟩) 2 2)).run Tryz.prog (W.alloc (.cells #[.int .u8 x, .int .u8 y] 5)).drew = .ok (.string (strOfNums [x, y])) (W.alloc (.cells #[.int .u8 x, .int .u8 y] 5)).drew := by
  refine conv_rdx (xs := [x, y]) (.inr ⟨W.heap.size, 0, rfl, by show W.heap.size < (W.alloc _).heap.size; rw [World.size_alloc]; exact Nat.lt_succ_self _, fun i hi => ?_⟩) rfl
  have hi : i < 2 := hi
  have hc := World.cell?_alloc_mark W #[.int .u8 x, .int .u8 y] 5 (0, 0) i
  rw [Nat.zero_add]
  refine Eq.trans hc ?_
  obtain rfl | rfl : i = 0 ∨ i = 1 := by omega
  · rfl
  · rfl
theorem and15_u8 : ∀ y : Fin 256, bits .and .u8 (y.val : Int) 15 = (y.val : Int) % 16 := by decide +kernel
def digS : ByteArray := ⟨#[48, 49, 50, 51, 52, 53, 54, 55, 56, 57, 97, 98, 99, 100, 101, 102]⟩
theorem digS_at (d : Nat) (hd : d < 16) (h : d < digS.size) : ((digS[d]'h).toNat : Int) = digI d := by
  have : d = 0 ∨ d = 1 ∨ d = 2 ∨ d = 3 ∨ d = 4 ∨ d = 5 ∨ d = 6 ∨ d = 7 ∨ d = 8 ∨ d = 9 ∨ d = 10 ∨ d = 11 ∨ d = 12 ∨ d = 13 ∨ d = 14 ∨ d = 15 := by omega
  rcases this with rfl | rfl | rfl | rfl | rfl | rfl | rfl | rfl | rfl | rfl | rfl | rfl | rfl | rfl | rfl | rfl <;> rfl
set_option maxHeartbeats 1000000 in
theorem text_anyB (c : ByteArray) (hz : c.size ≤ 16777216) (col tab want : Int) (wide join raw : Bool) (w : World) (hT : T8 w) (hD : DB w) :
    Calls Tryz.prog 17 #[.string c, .int .i64 col, lookV tab want wide join raw] w fun e w' =>
      e = .returned (.tuple #[.string (textI c col tab wide raw).1, .int .i64 (textI c col tab wide raw).2]) ∧ Below w.heap.size w w' := by
  obtain ⟨p, hp⟩ : ∃ p, textI c col tab wide raw = p := ⟨_, rfl⟩
  rw [hp]
  have hkb : nextI c ≤ c.size := by
    by_cases h : c.size = 0
    · unfold nextI; rw [if_pos h]; omega
    · exact (nextI_bd c (by omega)).2
  unfold textI at hp
  obtain ⟨k, hk⟩ : ∃ k, nextI c = k := ⟨_, rfl⟩
  have HN := Lib.hid (fun (W : World) (hb : Below w.heap.size w W) => hk ▸ Next_any c W (hT.below rfl hb) (by omega))
  rw [hk] at hp hkb
  obtain ⟨d, hd⟩ : ∃ d, c.extract 0 k = d := ⟨_, rfl⟩
  have hdz : d.size = k := by rw [← hd]; simp [ByteArray.size_extract]; omega
  rw [hd] at hp
  have HS := Lib.hid (fun (W : World) (hb : Below w.heap.size w W) => sNext_any d W (hT.below rfl hb))
  have HD := Lib.hid (fun (W : World) (hb : Below w.heap.size w W) => hD.below hb)
  have HP := Lib.hid hp
  clear hT hD hp hk
  go_enter Tryz.func17, Tryz.ntmps17
  go_upto_region 1 with (fail)
  have hb1 : Below w.heap.size w (w.alloc (.cells #[.int .i64 tab, .bool wide, .int .i8 want, .bool join, .bool raw] 26)) := (Below.refl _ _).alloc (Nat.le_refl _) _
  have hL : (w.alloc (.cells #[.int .i64 tab, .bool wide, .int .i8 want, .bool join, .bool raw] 26)).heap[w.heap.size]? = some (.cells #[.int .i64 tab, .bool wide, .int .i8 want, .bool join, .bool raw] 26 (0, 0)) := World.alloc_heap_new w _
  generalize w.alloc (.cells #[.int .i64 tab, .bool wide, .int .i8 want, .bool join, .bool raw] 26) = W1 at hb1 hL ⊢
  have g0 : (k : Int) ≤ (c.size : Int) := by omega
  go_upto_region 2 with (go_at_call 36; refine (HN.out _ hb1).mono ?_; rintro e w2 ⟨rfl, hb2⟩)
  have hb3 := hb1.trans (hb2.mono hb1.size)
  have hL2 := (hb2.block w.heap.size (Array.getElem?_eq_some_iff.1 hL).1).trans hL
  have hx : c.extract 0 k = d := hd
  by_cases h0 : d.size = 0
  · have hd0 : d = ⟨#[]⟩ := ByteArray.ext (Array.eq_empty_of_size_eq_zero h0)
    have hp := HP.out
    unfold textD at hp
    rw [if_pos h0] at hp
    subst hd0
    go_wp2_with (fail)
    go_ret2
    exact ⟨by rw [← hp]; rfl, hb3⟩
  have hem := ne_isEmpty d h0
  have hpos : 0 < d.size := by omega
  by_cases hbad : decR d = 65533 ∧ decN d = 1
  · have hp := HP.out
    unfold textD at hp
    rw [if_neg h0, if_pos hbad] at hp
    obtain ⟨e1, e2⟩ := hbad
    have hS2 := Lib.hid (HS.out w2 hb3)
    rw [e1, e2] at hS2
    have HP2 := Lib.hid hp
    clear hp HP
    go_upto_region 6 with (go_at_call 37; refine hS2.out.mono ?_; rintro e w4 ⟨rfl, hb4⟩)
    have hb5 := hb3.trans (hb4.mono hb3.size)
    clear hb2 hb4 hL2 hL hb1 hb3
    have hk0 : 0 < k := by omega
    obtain ⟨y, hy⟩ : ∃ y : Nat, (d[0]'hpos).toNat = y := ⟨_, rfl⟩
    have hy8 : y < 256 := by rw [← hy]; exact UInt8.toNat_lt _
    have hq : (0 : Int) ≤ (y : Int) / 16 ∧ (y : Int) / 16 < 16 := by omega
    have ha : bits .and .u8 (y : Int) 15 = (y : Int) % 16 := and15_u8 ⟨y, hy8⟩
    have hm : (0 : Int) ≤ (y : Int) % 16 ∧ (y : Int) % 16 < 16 := by omega
    obtain ⟨S2, hS2, hsz⟩ : ∃ S2 : Int → Int → ByteArray, (∀ x y, S2 x y = strOfNums [x, y]) ∧ ∀ x y, (S2 x y).size = 2 := ⟨fun x y => strOfNums [x, y], fun _ _ => rfl, fun x y => by rw [strOfNums_size]; rfl⟩
    have hcv := fun W x y => conv_two W x y
    simp only [← hS2] at hcv
    have hS3 := Lib.hid hS2
    clear hS2
    go_region
    go_wp2_with (fail)
    go_ret2
    refine ⟨two_ret ?_, (hb5.alloc hb5.size _).drew⟩
    have hg : (d.get! 0).toNat = y := by
      rw [← hy]
      show (d.data[0]!).toNat = (d.data[0]).toNat
      rw [getElem!_pos d.data 0 hpos]
    have k1 := digS_at (y / 16) (by omega) (by show y / 16 < 16; omega)
    have k2 := digS_at (y % 16) (by omega) (by show y % 16 < 16; omega)
    rw [← HP2.out, hS3.out, hg, ← k1, ← k2]
    rfl
  · have hp := HP.out
    unfold textD at hp
    rw [if_neg h0, if_neg hbad] at hp
    have hS2 := Lib.hid (HS.out w2 hb3)
    have HP2 := Lib.hid hp
    obtain ⟨C, F, hcv, hF⟩ := conv_str d (by omega)
    obtain ⟨hrp, hr0⟩ := runesI_pos d hpos
    have hrb : 0 ≤ ith (runesI d) 0 ∧ ith (runesI d) 0 < 2147483648 := by
      have := decode_le d 0
      rw [hr0]; omega
    have hrl := runesF_len d d.size 0
    have hone := fun (W : World) (hb : Below w.heap.size w (F W)) => one_any d (runesI d) (runesI d).length (C W) W.heap.size 0 rfl hrp (hF W).2.2 (by unfold runesI; omega) col tab want wide join raw (F W) (hF W).2.1 hrb (HD.out _ hb)
    have HF := Lib.hid hF
    rw [hp] at hone
    have hOne := Lib.hid hone
    have hbb := Lib.hid hbad
    clear hp HP hF hone hbad
    obtain ⟨r, hr⟩ : ∃ r, decR d = r := ⟨_, rfl⟩
    obtain ⟨m, hm⟩ : ∃ m, decN d = m := ⟨_, rfl⟩
    rw [hr, hm] at hS2 hbb
    clear hr hm
    go_upto_region 5 with (go_at_call 37; refine hS2.out.mono ?_; rintro e w4 ⟨rfl, hb4⟩)
    have hb5 := hb3.trans (hb4.mono hb3.size)
    have hL4 := (hb4.block w.heap.size (Nat.lt_of_lt_of_le (Array.getElem?_eq_some_iff.1 hL).1 hb2.size)).trans hL2
    have hb6 := hb5.trans (((HF.out w4).1).mono hb5.size)
    have hLs : w.heap.size < w4.heap.size := (Array.getElem?_eq_some_iff.1 hL4).1
    have hLF := (((HF.out w4).1).block w.heap.size hLs).trans hL4
    have k0 : (F w4).cell? ⟨w.heap.size, 0, none⟩ = some (.int .i64 tab) := by simp [World.cell?, hLF]
    have c1 : (F w4).cell? ⟨w.heap.size, 1, none⟩ = some (.bool wide) := by simp [World.cell?, hLF]
    have k2 : (F w4).cell? ⟨w.heap.size, 2, none⟩ = some (.int .i8 want) := by simp [World.cell?, hLF]
    have k3 : (F w4).cell? ⟨w.heap.size, 3, none⟩ = some (.bool join) := by simp [World.cell?, hLF]
    have c4 : (F w4).cell? ⟨w.heap.size, 4, none⟩ = some (.bool raw) := by simp [World.cell?, hLF]
    have hB6 := Lib.hid hb6
    have hO4 := Lib.hid (hOne.out w4 hb6)
    clear hLF hL4 hL2 hL hb1 hb2 hb3 hb4 hb5 hb6 hOne hrp hr0 hrb hrl HF hS2 HN HS HD
    by_cases e1 : r = 65533
    · subst e1
      have e2 : ((m : Int) == 1) = false := by
        rw [beq_eq_false_iff_ne]
        intro h
        exact hbb.out ⟨rfl, by omega⟩
      go_wp2_with (go_at_call 38; refine hO4.out.mono ?_; rintro e w5 ⟨rfl, hb7⟩)
      go_ret2
      exact ⟨rfl, hB6.out.trans (hb7.mono hB6.out.size)⟩
    · have e2 : (r == 65533) = false := by rw [beq_eq_false_iff_ne]; exact e1
      go_wp2_with (go_at_call 38; refine hO4.out.mono ?_; rintro e w5 ⟨rfl, hb7⟩)
      go_ret2
      exact ⟨rfl, hB6.out.trans (hb7.mono hB6.out.size)⟩
theorem text_any (c : ByteArray) (hz : c.size ≤ 2097152) (col tab want : Int) (wide join raw : Bool) (w : World) (hT : T8 w) (hD : DB w) :
    Calls Tryz.prog 17 #[.string c, .int .i64 col, lookV tab want wide join raw] w fun e w' =>
      e = .returned (.tuple #[.string (textI c col tab wide raw).1, .int .i64 (textI c col tab wide raw).2]) ∧ Below w.heap.size w w' := text_anyB c (by omega) col tab want wide join raw w hT hD
end Go.Proofs.YtlbclfmbejjneaaGreatDoor
