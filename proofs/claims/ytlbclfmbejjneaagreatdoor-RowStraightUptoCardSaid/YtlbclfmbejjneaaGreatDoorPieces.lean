/- The iterator over a text's clusters (cluster.pieces, cluster.All): its contract, for every loop body that keeps what lay below n₀. Condition: utf8's two tables stand where start-up lays them. -/
import Derived.Test.YtlbclfmbejjneaaGreatDoorClusB
import Derived.RangeFuncNested
import Derived.RangeFuncBound
import Derived.RangeFuncCalls
import Derived.RangeFuncLeaves
import Derived.RangeFuncBox
import Derived.Shelf.Abstract
import Derived.Shelf.RegionOpen
import Derived.WalkKit
import Derived.OwnWalkIn
import Derived.TacticsInMore
import Derived.LoopNIn
import Derived.LoopIn
namespace Go.Proofs.YtlbclfmbejjneaaGreatDoor
set_option linter.unusedVariables false
set_option linter.unusedSimpArgs false
open Go.RowKit Go.Proofs Go.Shelf
attribute [local go_sem] Oper.semAt_some

theorem T8.keep {n₀ : Nat} {w w' : World} (h : T8 w) (h3 : Tryz.lays197_ren.g 3 < n₀) (h4 : Tryz.lays197_ren.g 4 < n₀) (hb : Below n₀ w w') : T8 w' :=
  ⟨fun c hc => cell_bl hb h3 (h.1 c hc), fun i hi => ⟨cell_bl hb h4 (h.2 i hi).1, cell_bl hb h4 (h.2 i hi).2⟩⟩
theorem moreF_bd (x : Int) (s : ByteArray) : ∀ (f n : Nat) (z : Int) (a : Nat), a ≤ s.size → a ≤ moreF x s f n z a ∧ moreF x s f n z a ≤ s.size
  | 0, n, z, a, h => ⟨Nat.le_refl _, h⟩
  | f + 1, n, z, a, h => by
    rw [moreF]
    split
    · exact ⟨Nat.le_refl _, h⟩
    split
    · have h1 := decN_le (s.extract a s.size)
      rw [ext_size s a h] at h1
      have := moreF_bd x s f (n + 1) (decR (s.extract a s.size)) (a + decN (s.extract a s.size)) (by omega)
      omega
    · exact ⟨Nat.le_refl _, h⟩
theorem nextI_bd (s : ByteArray) (h : 0 < s.size) : 0 < nextI s ∧ nextI s ≤ s.size := by
  have h1 := decN_le s
  have h2 := decN_pos s h
  unfold nextI
  rw [if_neg (by omega)]
  split
  · split
    · omega
    · omega
  · have := moreF_bd (decR s) s 31 1 (decR s) (decN s) h1
    omega
theorem less_away {a m e k : Nat} (h : a + m = e) (hm : 0 < m) (hk : a < k) : k - e < k - a := by omega
/-- a piece of a text: what a loop's body may know of what it is handed -/
abbrev PieceOf (s : ByteArray) : Type := { x : Nat × ByteArray // x.1 + x.2.size ≤ s.size }
/-- what a round must keep: what lay below n₀, and what the iterator has captured -/
def KpB (Bn n₀ : Nat) (W W' : World) : Prop := Below n₀ W W' ∧ ∀ v, W.cell? ⟨Bn, 0, none⟩ = some v → W'.cell? ⟨Bn, 0, none⟩ = some v
theorem KpB.trans {Bn n₀ : Nat} {A B C : World} (h : KpB Bn n₀ A B) (k : KpB Bn n₀ B C) : KpB Bn n₀ A C := ⟨h.1.trans k.1, fun v hv => k.2 v (h.2 v hv)⟩
/-- a cluster, as yield gets it -/
abbrev encP (x : Nat × ByteArray) : Array Value := #[.int .i64 x.1, .string x.2]
set_option maxRecDepth 100000 in
set_option maxHeartbeats 200000 in
theorem pieces1_in (n : Nat) (hn : 1 ≤ n) (l Bn n₀ : Nat) (s : ByteArray) (hs : s.size ≤ 9223372036854775807) (h3 : Tryz.lays197_ren.g 3 < n₀) (h4 : Tryz.lays197_ren.g 4 < n₀) (J Jx : List (PieceOf s) → World → Prop) (W : World) (hle : n₀ ≤ W.heap.size) (hJ : AbidesFrom W.heap.size J)
    (hY : ∀ pre x W1, J pre W1 → pre.length < (piecesI s).length → YieldAt Fence.wide (n - 1) Tryz.prog l (encP x.1) W1 fun e W' =>
      (e = .returned (.bool true) ∧ J (pre ++ [x]) W' ∧ KpB Bn n₀ W1 W') ∨ (e = .returned (.bool false) ∧ Jx (pre ++ [x]) W'))
    (hBn : W.cell? ⟨Bn, 0, none⟩ = some (.string s)) (hT : T8 W) (h0 : J [] W) :
    CallsIn Fence.wide n Tryz.prog 54 #[.func (.yield l) #[] #[], .pointer (some ⟨Bn, 0, none⟩)] W fun e W' => (∃ v, e = .returned v) ∧
      ((∃ ys : List (PieceOf s), ys.map (·.1) = piecesI s ∧ J ys W') ∨ (∃ pre : List (PieceOf s), pre.map (·.1) <+: piecesI s ∧ Jx pre W')) := by
  have HTK := Lib.hid (fun (w' : World) (hb : Below n₀ W w') => hT.keep h3 h4 hb)
  have HY := Lib.hid hY
  have HJ := Lib.hid hJ
  clear h3 h4 hT hY hJ
  refine callsIn_of_wp Tryz.func54 rfl trivial ?_ rfl
  simp only [Tryz.ntmps54, List.size_toArray, List.length_cons, List.length_nil, Nat.reduceAdd, Nat.reduceSub, Array.replicate_succ, Array.replicate_zero, List.push_toArray, List.append_toArray, List.nil_append, List.cons_append]
  gi_wp2
  gi_loopw [3, 4] (fun u3 _ wr => ∃ (a f : Nat) (pre : List (PieceOf s)), u3 = .int .i64 a ∧ a ≤ s.size ∧ s.size ≤ a + f ∧ piecesI s = pre.map (·.1) ++ piecesF s f a ∧ J pre wr ∧ Below n₀ W wr ∧ wr.cell? ⟨Bn, 0, none⟩ = some (.string s))
    (fun u3 _ _ => s.size - (intOf u3).toNat)
  case atStart => exact ⟨0, s.size, [], rfl, Nat.zero_le _, by omega, rfl, h0, Below.refl _ _, hBn⟩
  case round =>
    obtain ⟨a, f, pre, rfl, ha, hf, hp, hJp, hb, hcx⟩ := hrel
    by_cases hlt : a < s.size
    · obtain ⟨t, ht⟩ : ∃ t, s.extract a s.size = t := ⟨_, rfl⟩
      have htz : t.size = s.size - a := by rw [← ht]; exact ext_size s a ha
      have hnb := nextI_bd t (by omega)
      obtain ⟨m, hm⟩ : ∃ m, nextI t = m := ⟨_, rfl⟩
      obtain ⟨f, rfl⟩ : ∃ g, f = g + 1 := ⟨f - 1, by omega⟩
      rw [piecesF, if_pos hlt, ht, hm] at hp
      rw [hm] at hnb
      obtain ⟨e, he⟩ : ∃ e, a + m = e := ⟨_, rfl⟩
      rw [he] at hp
      obtain ⟨c, hc⟩ : ∃ c, s.extract a e = c := ⟨_, rfl⟩
      rw [hc] at hp
      have hN := Lib.hid (Next_any t wr (HTK.out wr hb) (by omega))
      rw [hm] at hN
      have hpc : a + c.size ≤ s.size := by rw [← hc]; simp [ByteArray.size_extract]; omega
      obtain ⟨pc, hpcv⟩ : ∃ pc : PieceOf s, pc.1 = (a, c) := ⟨⟨(a, c), hpc⟩, rfl⟩
      have HPC := Lib.hid hpcv
      clear hpcv
      have hlen : pre.length < (piecesI s).length := by rw [hp, List.length_append, List.length_cons, List.length_map]; omega
      have HP := Lib.hid hp
      have HT := Lib.hid ht
      have HC := Lib.hid hc
      have HL := Lib.hid hlen
      have g0 : (0 : Int) ≤ (a : Int) := by omega
      have g1 : (a : Int) < (s.size : Int) := by omega
      have g2 : (a : Int) ≤ (s.size : Int) := by omega
      have g3 : (e : Int) ≤ (s.size : Int) := by omega
      have g4 : (a : Int) ≤ (e : Int) := by omega
      have ge : (0 : Int) ≤ (e : Int) := by omega
      have ew : wrap64 ((a : Int) + (m : Int)) = (e : Int) := by unfold wrap64; omega
      have HE := Lib.hid he
      have HB := Lib.hid hnb
      have HZ := Lib.hid htz
      have HF := Lib.hid hf
      clear hp ht hm hc hlen he hnb htz hf
      gi_wp2_with (fail)
      refine ⟨trivial, ?_⟩
      rw [HT.out]
      refine (callsIn_wide.2 hN.out).mono ?_
      rintro e' w2 ⟨rfl, hb2⟩
      have hJ2 := HJ.out pre wr w2 none hJp ⟨hb2.os, hb2.tape, hb2.output, hb2.size, fun q hq _ => hb2.block q hq⟩ (fun r e => by cases e)
      have hcx2 : w2.cell? ⟨Bn, 0, none⟩ = some (.string s) := cell_bl hb2 (cell_lt hcx) hcx
      obtain ⟨fn, tmps, assign, body, hy, hR⟩ := HY.out pre pc w2 hJ2 HL.out
      rw [HPC.out] at hy
      dsimp only [encP] at hy
      rw [← HC.out] at hy
      have HR := Lib.hid hR
      clear hR
      gi_wp2_with (fail)
      refine HR.out.mono ?_
      rintro e' W3 (⟨rfl, hJ3, hk3⟩ | ⟨rfl, hJx3⟩)
      · have hb3 := hb.trans ((hb2.mono (Nat.le_trans hle hb.size)).trans hk3.1)
        have hc3 := hk3.2 _ hcx2
        clear hy HR hb2 hk3
        gi_wp2_with (fail)
        go_roundw
        case rel => exact ⟨e, f, pre ++ [pc], by first | rfl | rw [ew] | simp [ew], by omega, by have := HF.out; have := HE.out; have := HB.out; omega, by rw [HP.out, List.map_append, List.append_assoc, List.map_cons, HPC.out]; rfl, hJ3, hb3, hc3⟩
        case measure =>
          have e1 : (intOf (Value.int IntKind.i64 (wrap64 ((a : Int) + (m : Int))))).toNat = e := by rw [ew]; rfl
          have e2 : (intOf (Value.int IntKind.i64 (a : Int))).toNat = a := rfl
          rw [e1, e2]
          exact less_away HE.out HB.out.1 hlt
      · clear hy HR hb2
        gi_wp2_with (fail)
        refine bodyPost_ret (results_none rfl _ _ _) rfl ?_
        exact ⟨⟨_, rfl⟩, .inr ⟨pre ++ [pc], ⟨piecesF s f e, by rw [HP.out, List.map_append, List.append_assoc, List.map_cons, HPC.out]; rfl⟩, hJx3⟩⟩
    · obtain rfl : a = s.size := by omega
      have hp2 : piecesI s = pre.map (·.1) := by
        rw [hp]
        cases f with
        | zero => rw [piecesF, List.append_nil]
        | succ f => rw [piecesF, if_neg (by omega), List.append_nil]
      have HP := Lib.hid hp2
      clear hp hp2
      gi_wp2_with (fail)
      go_end0
      exact ⟨⟨_, rfl⟩, .inl ⟨pre, HP.out.symm, hJp⟩⟩
theorem pieces_stops (n : Nat) (hn : 1 ≤ n) (Bn n₀ : Nat) (s : ByteArray) (hs : s.size ≤ 9223372036854775807) (h3 : Tryz.lays197_ren.g 3 < n₀) (h4 : Tryz.lays197_ren.g 4 < n₀) (w : World) (hle : n₀ ≤ w.heap.size)
    (hBn : w.cell? ⟨Bn, 0, none⟩ = some (.string s)) (hT : T8 w) :
    SeqStopsK Fence.wide n Tryz.prog 54 #[.pointer (some ⟨Bn, 0, none⟩)] (fun x : PieceOf s => encP x.1) (KpB Bn n₀) (fun xs => xs.map (·.1) = piecesI s) (fun pre => pre.map (·.1) <+: piecesI s) (piecesI s).length w := fun l J Jx W hW hJ hJx hY h0 => by
  have hW0 : Below n₀ w W := hW.mono hle
  exact pieces1_in n hn l Bn n₀ s hs h3 h4 J Jx W (Nat.le_trans hle hW.size) hJ hY (cell_bl hW (cell_lt hBn) hBn) (hT.keep h3 h4 hW0) h0
/-- the iterator's value -/
def itV (B : Nat) : Value := .func (.func 54) #[] #[.pointer (some ⟨B, 0, none⟩)]
theorem pieces_any (s : ByteArray) (w : World) :
    Calls Tryz.prog 35 #[.string s] w fun e w' => e = .returned (itV w.heap.size) ∧ w' = w.alloc (.cells #[.string s] 9) := by
  have hmf : ∀ (fn : Fn) (first cap : Array Value) (w : World), (Instr.makeFunc fn first cap).run Tryz.prog w = .ok (.func fn first cap) w := fun _ _ _ _ => rfl
  go_enter Tryz.func35, Tryz.ntmps35
  go_wp2_with (fail)
  go_ret
  exact ⟨rfl, rfl⟩
theorem All_any (s : ByteArray) (w : World) :
    Calls Tryz.prog 16 #[.string s] w fun e w' => e = .returned (itV w.heap.size) ∧ w' = w.alloc (.cells #[.string s] 9) := by
  have hp := Lib.hid (pieces_any s w)
  go_enter Tryz.func16, Tryz.ntmps16
  go_wp2_with (go_at_call 35; refine hp.out.mono ?_; rintro e w1 ⟨rfl, rfl⟩)
  go_ret
  exact ⟨rfl, rfl⟩
end Go.Proofs.YtlbclfmbejjneaaGreatDoor
