/- The call of sort.Slice that pair.Brackets makes: the row of pairs is left a permutation, ascending by the first places; nothing else changes. Fewer than 2^40 pairs. -/
import Derived.Test.YtbhhebheclfdlaaSpec09
import Derived.Test.YtbhhebheclfdlaaStack
import Derived.Test.YtbhhebheclfdlaaPairs
import Derived.Test.YtbhhebheclfdlaaShelf
import Derived.Shelf.GgSortFunc.Tiny
import Derived.Deep.QuietTactic
import Derived.BigQuiet
namespace Go.Proofs.Ytbhhebheclfdlaa
set_option linter.unusedVariables false
set_option linter.unusedSimpArgs false
open Go.Proofs Go.Shelf Go.RowKit Go.Lib Go.Sort

def ltP (a b : Nat × Nat) : Bool := decide (a.1 < b.1)
theorem swo_ltP : SWO ltP where
  irrefl := fun x => by simp [ltP]
  trans := fun x y z h1 h2 => by simp [ltP] at *; omega
  ntrans := fun x y z h1 h2 => by simp [ltP] at *; omega
theorem flatK_toList (d : Array (Nat × Nat)) : (flatK pcell 2 d).toList = d.toList.flatMap pcell := by
  apply List.ext_getElem?
  intro t
  have hl : (d.toList.flatMap pcell).length = d.size * 2 := by rw [flat_len2 _ _ (fun _ => rfl)]; simp
  by_cases ht : t < d.size * 2
  · have h1 : (flatK pcell 2 d).toList[t]? = some ((pcell d[t / 2]!)[t % 2]!) := by
      rw [← get_flatK pcell 2 d t ht]
      simp [ht]
    have h2 := flat_get2 d.toList (0, 0) pcell _ _ (fun _ => rfl) (t / 2) (by simp; omega)
    have h3 : d[t / 2]! = d.toList.getD (t / 2) (0, 0) := by
      have : t / 2 < d.size := by omega
      simp [this]
    rw [h1, h3]
    rcases Nat.mod_two_eq_zero_or_one t with h0 | h0
    · have e : t = t / 2 * 2 := by omega
      rw [h0, show (d.toList.flatMap pcell)[t]? = (d.toList.flatMap pcell)[t / 2 * 2]? by rw [← e], h2.1]
      rfl
    · have e : t = t / 2 * 2 + 1 := by omega
      rw [h0, show (d.toList.flatMap pcell)[t]? = (d.toList.flatMap pcell)[t / 2 * 2 + 1]? by rw [← e], h2.2]
      rfl
  · rw [List.getElem?_eq_none (by simp; omega), List.getElem?_eq_none (by omega)]

theorem take_put (F cur : Array Value) (h : F.size ≤ cur.size) : (putCells id 0 F cur).toList.take F.size = F.toList := by
  apply List.ext_getElem?
  intro t
  rw [List.getElem?_take]
  by_cases ht : t < F.size
  · rw [if_pos ht]
    have h2 : t < cur.size := by omega
    simp [putCells, ht, h2]
  · rw [if_neg ht, List.getElem?_eq_none (by simpa using ht)]

/-- the row behind the sort -/
theorem own_sorted {w : World} {base e g n c m : Nat} {xs : List Value} {os : Array Obj} (d : Array (Nat × Nat)) (hn : d.size = n)
    (h : w.ownsRow base e 2 (.slice (some ⟨g, 0, none⟩) n c) n xs) :
    (grow (putRowK pcell 2 (Sort.ahead w m) g 0 d) os).ownsRow base e 2 (.slice (some ⟨g, 0, none⟩) n c) n (d.toList.flatMap pcell) := by
  obtain ⟨hl, h2⟩ := h
  rcases h2 with ⟨h0, _⟩ | ⟨g', cap, cur, hv, hg, hh, hc, hm, hs, ht⟩
  · cases h0
  · cases hv
    have hgl : g < w.heap.size := (Array.getElem?_eq_some_iff.1 hh).1
    refine ⟨by rw [flat_len2 _ _ (fun _ => rfl)]; simp [hn], .inr ⟨g, c, putCells id 0 (flatK pcell 2 d) cur, rfl, hg, ?_, hc, hm, by simp [putCells, hs], ?_⟩⟩
    · show (grow (putRow id (Sort.ahead w m) g 0 (flatK pcell 2 d)) os).heap[g]? = _
      have e1 : (grow (putRow id (Sort.ahead w m) g 0 (flatK pcell 2 d)) os).heap[g]? = (putRow id (Sort.ahead w m) g 0 (flatK pcell 2 d)).heap[g]? := by
        simp only [grow]
        rw [Array.getElem?_append_left (by rw [size_putRow]; exact hgl)]
      rw [e1]
      simp only [putRow, mapBlock, Array.getElem?_modify, if_true]
      show Option.map _ (w.heap[g]?) = _
      rw [hh]; rfl
    · have hsz : (flatK pcell 2 d).size = n * 2 := by simp [hn]
      rw [← hsz, take_put _ _ (by rw [hsz, hs]; exact Nat.mul_le_mul_right 2 hc), flatK_toList]
theorem grown_sorted {w : World} {g m : Nat} {os : Array Obj} (d : Array (Nat × Nat)) : w.grownBy (grow (putRowK pcell 2 (Sort.ahead w m) g 0 d) os) (some g) := by
  refine ⟨rfl, rfl, rfl, by simp [grow, putRowK, putRow, mapBlock, Sort.ahead], fun k hk hne => ?_⟩
  have hne' : g ≠ k := fun e => hne (by rw [e])
  simp only [grow]
  rw [Array.getElem?_append_left (by show k < (putRow id (Sort.ahead w m) g 0 (flatK pcell 2 d)).heap.size; rw [size_putRow]; exact hk)]
  simp only [putRowK, putRow, mapBlock, Array.getElem?_modify, if_neg hne']
  rfl
theorem grown_grow (w : World) (os : Array Obj) (row : Option Nat) : w.grownBy (grow w os) row :=
  ⟨rfl, rfl, rfl, by simp [grow], fun k hk _ => by simp only [grow]; rw [Array.getElem?_append_left hk]⟩

noncomputable def svT : TypeInfo := (Try.prog.info? 100).get (by kernel_rfl)
noncomputable def svE : TypeInfo := (Try.prog.info? 102).get (by kernel_rfl)
theorem svK (n : Nat) (h2 : 2 ≤ n) : Lib.swapperK n svE 17 = 9 := by
  have a : svE.hasPointers = false := by kernel_rfl
  have b : svE.bytes = 16 := by kernel_rfl
  have c : (n == 0) = false := by simp; omega
  have d : (n == 1) = false := by simp; omega
  simp [Lib.swapperK, a, b, c, d]

set_option maxHeartbeats 1000000 in
/-- the closure of the sort -/
theorem less_pairs (blk c Bs size : Nat) (W : World) (G : Nat → Int) (hs : W.cell? ⟨Bs, 0, none⟩ = some (.slice (some ⟨blk, 0, none⟩) size c))
    (hc : ∀ t, t < size → W.cell? ⟨blk, t * 2, none⟩ = some (.int .i64 (G t))) (i j : Nat) (hi : i < size) (hj : j < size) (_hsz : size < 4611686018427387904) :
    Calls Try.prog 79 #[.int .i64 i, .int .i64 j, .pointer (some ⟨Bs, 0, none⟩)] W fun e w' => e = .returned (.bool (decide (G i < G j))) ∧ ∃ q, w' = W.drewN q := by
  have ci := hc i hi
  have cj := hc j hj
  have i0 : (0 : Int) ≤ (i : Int) := by omega
  have i1 : (i : Int) < (size : Int) := by omega
  have j0 : (0 : Int) ≤ (j : Int) := by omega
  have j1 : (j : Int) < (size : Int) := by omega
  go_enter Try.func79, Try.ntmps79
  go_wp2
  go_quiet (fail)
  go_wp2
  go_ret
  exact ⟨rfl, nq, rfl⟩

def SortPost (out : List (Nat × Nat)) (base : Nat) (ov : Value) (w : World) (e : Ending) (w' : World) : Prop :=
  e = .returned (.tuple #[]) ∧ ∃ l : List (Nat × Nat), l.Perm out ∧ l.Pairwise (fun a b => a.1 ≤ b.1) ∧ w'.ownsRow base 102 2 ov out.length (l.flatMap pcell) ∧ w.grownBy w' ov.ownBlock

theorem holdsK_of_own {w : World} {base e g c : Nat} (out : List (Nat × Nat)) (h : w.ownsRow base e 2 (.slice (some ⟨g, 0, none⟩) out.length c) out.length (out.flatMap pcell)) :
    HoldsK pcell 2 w g 0 out.toArray := by
  intro j hj
  rw [size_flatK] at hj
  have hlen : (out.flatMap pcell).length = out.length * 2 := flat_len2 _ _ (fun _ => rfl)
  have hj' : j < (out.flatMap pcell).length := by rw [hlen]; simpa using hj
  have e1 : id (flatK pcell 2 out.toArray)[j]! = (out.flatMap pcell)[j] := by
    have hk : flatK pcell 2 out.toArray = (out.flatMap pcell).toArray := by
      apply Array.ext'
      rw [flatK_toList]
    rw [hk]
    rw [id, getElem!_pos _ _ (by simpa using hj')]
    simp
  rw [e1, Nat.zero_add]
  obtain ⟨_, h2⟩ := h
  rcases h2 with ⟨h0, _⟩ | ⟨g', cap, cur, hv, hg, hh, hc, hm, hs, ht⟩
  · cases h0
  · cases hv
    have hx : cur[j]? = some ((out.flatMap pcell)[j]) := by
      have : (cur.toList.take (out.length * 2))[j]? = (out.flatMap pcell)[j]? := by rw [ht]
      rw [List.getElem?_take, if_pos (by omega), List.getElem?_eq_getElem hj'] at this
      simpa using this
    exact ⟨by simp [World.cell?, hh, hx], by simp [World.frozen?, hh]⟩

theorem sort_call (OB base : Nat) (out : List (Nat × Nat)) (ov : Value) (w : World) (hown : w.ownsRow base 102 2 ov out.length (out.flatMap pcell)) (hOB : w.cell? ⟨OB, 0, none⟩ = some ov) (hOB2 : OB < base)
    (hsz : out.length < 1099511627776) :
    Calls Try.prog 78 #[.iface 100 ov, .func (.func 79) #[] #[.pointer (some ⟨OB, 0, none⟩)]] w (SortPost out base ov w) := by
  have hOBl : OB < w.heap.size := cell_lt hOB
  by_cases h1 : out.length ≤ 1
  · obtain ⟨p, c, hv⟩ : ∃ p c, ov = .slice p out.length c := by
      rcases hown.2 with ⟨h, h0⟩ | ⟨g, cap, cur, h, _⟩
      · exact ⟨none, 0, by rw [h, h0]⟩
      · exact ⟨_, _, h⟩
    have hpw : out.Pairwise (fun a b => a.1 ≤ b.1) := by
      match out, h1 with
      | [], _ => exact .nil
      | [x], _ => exact List.pairwise_singleton _ _
    have hf : ∃ f, Try.prog.funcs.findIdx? (·.name == "internal/reflectlite" ++ ".Swapper$" ++ toString (Lib.swapperK out.length svE 17)) = some f := by
      match out, h1 with
      | [], _ => exact ⟨92, by kernel_rfl⟩
      | [x], _ => exact ⟨93, by kernel_rfl⟩
    obtain ⟨f, hf⟩ := hf
    subst hv
    refine (Any.sort_Slice_tiny (P := Try.prog) Try.laysGg6 100 102 svT svE (by kernel_rfl) (by kernel_rfl) (by kernel_rfl) (by kernel_rfl) 17 (fun _ => by kernel_rfl) p out.length c h1 f hf (.func 79) #[] #[.pointer (some ⟨OB, 0, none⟩)] w).mono ?_
    rintro e w' ⟨rfl, os, rfl⟩
    exact ⟨rfl, out, List.Perm.refl _, hpw, hown.kept (grown_grow _ _ none) (by cases h : (Value.slice p out.length c).ownBlock <;> simp), grown_grow _ _ _⟩
  · obtain ⟨g, c, hv, hg⟩ : ∃ g c, ov = .slice (some ⟨g, 0, none⟩) out.length c ∧ base ≤ g := by
      rcases hown.2 with ⟨h, h0⟩ | ⟨g, cap, cur, h, hb, _⟩
      · omega
      · exact ⟨_, _, h, hb⟩
    subst hv
    have hgl : g < w.heap.size := (hown.lt g rfl).2
    have hH := holdsK_of_own out hown
    have hless : LessReadsK Try.prog 79 #[.pointer (some ⟨OB, 0, none⟩)] pcell 2 ltP g 0 out.toArray.size w := by
      intro m os dk hs i j hi hj
      have e : sortWorldK pcell 2 w g 0 m dk os = putRowK pcell 2 (grow (Sort.ahead w m) os) g 0 dk := by
        unfold sortWorldK; rw [putRowK_grow _ _ (Sort.ahead w m) _ g 0 _ hgl]
      have hHg : HoldsK pcell 2 (grow (Sort.ahead w m) os) g 0 out.toArray := holdsK_grow _ _ _ _ g 0 _ hgl (holdsK_ahead _ _ _ _ _ _ _ hH)
      have := less_pairs g c OB out.length (sortWorldK pcell 2 w g 0 m dk os) (fun t => (dk[t]!.1 : Int)) ?_ (fun t ht => ?_) i j (by simpa using hi) (by simpa using hj) (by omega)
      · refine this.mono ?_
        rintro e w' ⟨rfl, hq⟩
        exact ⟨by simp [ltP], hq⟩
      · rw [e, cell?_putRowK_other _ _ _ g 0 dk _ (by show OB ≠ g; omega), cell?_grow _ _ _ (by exact hOBl)]; exact hOB
      · rw [e]
        have := ((holdsK_putRowK _ _ _ g 0 out.toArray dk hHg hs).cell (i := t) (c := 0) (by simp at hs; omega) (by omega)).1
        rw [show (0 + t * 2 + 0 : Nat) = t * 2 by omega] at this
        exact this
    have hS := Any.sort_Slice_cells_sorted (P := Try.prog) Try.laysGg6 100 102 svT svE (by kernel_rfl) (by kernel_rfl) (by kernel_rfl) (by kernel_rfl) 17 (fun _ => by kernel_rfl) pcell 2 (fun _ => rfl) (by kernel_rfl) (fun _ => by kernel_rfl)
      (fun x v hv => by simp [pcell] at hv; rcases hv with rfl | rfl <;> rfl) ltP swo_ltP 79 _
      (enters_of Try.func79 (by kernel_rfl) rfl) g 0 c out.toArray (by simp; omega) (by simp; omega) 100 (by rw [svK _ (by simp; omega)]; kernel_rfl) false
      (fun args W => run_callFunc_extern Try.func100 (by kernel_rfl) (by kernel_rfl) (by kernel_rfl) (e := Extern.ReflectliteSwapper.swap false) (by kernel_rfl) args W) w hless hH hgl
    refine hS.mono ?_
    rintro e w' ⟨rfl, d', n, os, hp, hso, rfl⟩
    have hsz' : d'.size = out.length := by simpa using hp.1
    refine ⟨rfl, d'.toList, ?_, ?_, own_sorted d' hsz' hown, grown_sorted d'⟩
    · have := hp.2.2
      rw [show d'.extract 0 out.toArray.size = d' by simp [← hsz'], show out.toArray.extract 0 out.toArray.size = out.toArray by simp] at this
      simpa using this
    · rw [List.pairwise_iff_getElem]
      intro i j hi hj hij
      have := hso i j (Nat.zero_le _) hij (by simp at hj ⊢; omega)
      have hi' : i < d'.size := by simpa using hi
      have hj' : j < d'.size := by simpa using hj
      simp [ltP, hi', hj'] at this
      simpa using this
end Go.Proofs.Ytbhhebheclfdlaa
