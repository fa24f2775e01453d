/- Contracts of pair.Brackets and pair.Resolve. -/
import Derived.Test.YtlbclfmbejjneaaGreatDoorV1
import Derived.Test.YtlbclfmbejjneaaGreatDoorV2
import Derived.Test.YtlbclfmbejjneaaGreatDoorShelf
import Derived.Shelf.GgSortFunc.Tiny
import Derived.Deep.QuietTactic
import Derived.BigQuiet
import Derived.Deep.DeepCutAuto
import Derived.Deep.RegionHeld3
import Derived.Deep.AppendLies
import Derived.Deep.RegionLaw
import Derived.Deep.CutBlock
import Derived.Laws.BitsAllLaws
namespace Go.Proofs.YtlbclfmbejjneaaGreatDoor
section
set_option linter.unusedVariables false
set_option linter.unusedSimpArgs false
open Go.Proofs Go.Shelf Go.RowKit Go.Lib Go.Sort

def ltP (a b : Nat × Nat) : Bool := decide (a.1 < b.1)
theorem swo_ltP : SWO ltP where
  irrefl := fun x => by simp [ltP]
  trans := fun x y z h1 h2 => by simp [ltP] at *; omega
  ntrans := fun x y z h1 h2 => by simp [ltP] at *; omega
theorem flatK_toList (d : Array (Nat × Nat)) : (flatK pcell 2 d).toList = d.toList.flatMap pcell := by
  apply List.ext_getElem?
  intro t
  have hl : (d.toList.flatMap pcell).length = d.size * 2 := by rw [flat_len2 _ _ (fun _ => rfl)]; simp
  by_cases ht : t < d.size * 2
  · have h1 : (flatK pcell 2 d).toList[t]? = some ((pcell d[t / 2]!)[t % 2]!) := by
      rw [← get_flatK pcell 2 d t ht]
      simp [ht]
    have h2 := flat_get2 d.toList (0, 0) pcell _ _ (fun _ => rfl) (t / 2) (by simp; omega)
    have h3 : d[t / 2]! = d.toList.getD (t / 2) (0, 0) := by
      have : t / 2 < d.size := by omega
      simp [this]
    rw [h1, h3]
    rcases Nat.mod_two_eq_zero_or_one t with h0 | h0
    · have e : t = t / 2 * 2 := by omega
      rw [h0, show (d.toList.flatMap pcell)[t]? = (d.toList.flatMap pcell)[t / 2 * 2]? by rw [← e], h2.1]
      rfl
    · have e : t = t / 2 * 2 + 1 := by omega
      rw [h0, show (d.toList.flatMap pcell)[t]? = (d.toList.flatMap pcell)[t / 2 * 2 + 1]? by rw [← e], h2.2]
      rfl
  · rw [List.getElem?_eq_none (by simp; omega), List.getElem?_eq_none (by omega)]

theorem take_put (F cur : Array Value) (h : F.size ≤ cur.size) : (putCells id 0 F cur).toList.take F.size = F.toList := by
  apply List.ext_getElem?
  intro t
  rw [List.getElem?_take]
  by_cases ht : t < F.size
  · rw [if_pos ht]
    have h2 : t < cur.size := by omega
    simp [putCells, ht, h2]
  · rw [if_neg ht, List.getElem?_eq_none (by simpa using ht)]

/-- the row behind the sort -/
theorem own_sorted {w : World} {base e g n c m : Nat} {xs : List Value} {os : Array Obj} (d : Array (Nat × Nat)) (hn : d.size = n)
    (h : w.ownsRow base e 2 (.slice (some ⟨g, 0, none⟩) n c) n xs) :
    (grow (putRowK pcell 2 (Sort.ahead w m) g 0 d) os).ownsRow base e 2 (.slice (some ⟨g, 0, none⟩) n c) n (d.toList.flatMap pcell) := by
  obtain ⟨hl, h2⟩ := h
  rcases h2 with ⟨h0, _⟩ | ⟨g', cap, cur, hv, hg, hh, hc, hm, hs, ht⟩
  · cases h0
  · cases hv
    have hgl : g < w.heap.size := (Array.getElem?_eq_some_iff.1 hh).1
    refine ⟨by rw [flat_len2 _ _ (fun _ => rfl)]; simp [hn], .inr ⟨g, c, putCells id 0 (flatK pcell 2 d) cur, rfl, hg, ?_, hc, hm, by simp [putCells, hs], ?_⟩⟩
    · show (grow (putRow id (Sort.ahead w m) g 0 (flatK pcell 2 d)) os).heap[g]? = _
      have e1 : (grow (putRow id (Sort.ahead w m) g 0 (flatK pcell 2 d)) os).heap[g]? = (putRow id (Sort.ahead w m) g 0 (flatK pcell 2 d)).heap[g]? := by
        simp only [grow]
        rw [Array.getElem?_append_left (by rw [size_putRow]; exact hgl)]
      rw [e1]
      simp only [putRow, mapBlock, Array.getElem?_modify, if_true]
      show Option.map _ (w.heap[g]?) = _
      rw [hh]; rfl
    · have hsz : (flatK pcell 2 d).size = n * 2 := by simp [hn]
      rw [← hsz, take_put _ _ (by rw [hsz, hs]; exact Nat.mul_le_mul_right 2 hc), flatK_toList]
theorem grown_sorted {w : World} {g m : Nat} {os : Array Obj} (d : Array (Nat × Nat)) : w.grownBy (grow (putRowK pcell 2 (Sort.ahead w m) g 0 d) os) (some g) := by
  refine ⟨rfl, rfl, rfl, by simp [grow, putRowK, putRow, mapBlock, Sort.ahead], fun k hk hne => ?_⟩
  have hne' : g ≠ k := fun e => hne (by rw [e])
  simp only [grow]
  rw [Array.getElem?_append_left (by show k < (putRow id (Sort.ahead w m) g 0 (flatK pcell 2 d)).heap.size; rw [size_putRow]; exact hk)]
  simp only [putRowK, putRow, mapBlock, Array.getElem?_modify, if_neg hne']
  rfl
theorem grown_grow (w : World) (os : Array Obj) (row : Option Nat) : w.grownBy (grow w os) row :=
  ⟨rfl, rfl, rfl, by simp [grow], fun k hk _ => by simp only [grow]; rw [Array.getElem?_append_left hk]⟩

noncomputable def svT : TypeInfo := (Tryz.prog.info? 57).get (by kernel_rfl)
noncomputable def svE : TypeInfo := (Tryz.prog.info? 59).get (by kernel_rfl)
theorem svK (n : Nat) (h2 : 2 ≤ n) : Lib.swapperK n svE 17 = 9 := by
  have a : svE.hasPointers = false := by kernel_rfl
  have b : svE.bytes = 16 := by kernel_rfl
  have c : (n == 0) = false := by simp; omega
  have d : (n == 1) = false := by simp; omega
  simp [Lib.swapperK, a, b, c, d]

set_option maxHeartbeats 1000000 in
/-- the closure of the sort -/
theorem less_pairs (blk c Bs size : Nat) (W : World) (G : Nat → Int) (hs : W.cell? ⟨Bs, 0, none⟩ = some (.slice (some ⟨blk, 0, none⟩) size c))
    (hc : ∀ t, t < size → W.cell? ⟨blk, t * 2, none⟩ = some (.int .i64 (G t))) (i j : Nat) (hi : i < size) (hj : j < size) (_hsz : size < 4611686018427387904) :
    Calls Tryz.prog 183 #[.int .i64 i, .int .i64 j, .pointer (some ⟨Bs, 0, none⟩)] W fun e w' => e = .returned (.bool (decide (G i < G j))) ∧ ∃ q, w' = W.drewN q := by
  have ci := hc i hi
  have cj := hc j hj
  have i0 : (0 : Int) ≤ (i : Int) := by omega
  have i1 : (i : Int) < (size : Int) := by omega
  have j0 : (0 : Int) ≤ (j : Int) := by omega
  have j1 : (j : Int) < (size : Int) := by omega
  go_enter Tryz.func183, Tryz.ntmps183
  go_wp2
  go_quiet (fail)
  go_wp2
  go_ret
  exact ⟨rfl, nq, rfl⟩

def SortPost (out : List (Nat × Nat)) (base : Nat) (ov : Value) (w : World) (e : Ending) (w' : World) : Prop :=
  e = .returned (.tuple #[]) ∧ ∃ l : List (Nat × Nat), l.Perm out ∧ l.Pairwise (fun a b => a.1 ≤ b.1) ∧ w'.ownsRow base 59 2 ov out.length (l.flatMap pcell) ∧ w.grownBy w' ov.ownBlock

theorem holdsK_of_own {w : World} {base e g c : Nat} (out : List (Nat × Nat)) (h : w.ownsRow base e 2 (.slice (some ⟨g, 0, none⟩) out.length c) out.length (out.flatMap pcell)) :
    HoldsK pcell 2 w g 0 out.toArray := by
  intro j hj
  rw [size_flatK] at hj
  have hlen : (out.flatMap pcell).length = out.length * 2 := flat_len2 _ _ (fun _ => rfl)
  have hj' : j < (out.flatMap pcell).length := by rw [hlen]; simpa using hj
  have e1 : id (flatK pcell 2 out.toArray)[j]! = (out.flatMap pcell)[j] := by
    have hk : flatK pcell 2 out.toArray = (out.flatMap pcell).toArray := by
      apply Array.ext'
      rw [flatK_toList]
    rw [hk]
    rw [id, getElem!_pos _ _ (by simpa using hj')]
    simp
  rw [e1, Nat.zero_add]
  obtain ⟨_, h2⟩ := h
  rcases h2 with ⟨h0, _⟩ | ⟨g', cap, cur, hv, hg, hh, hc, hm, hs, ht⟩
  · cases h0
  · cases hv
    have hx : cur[j]? = some ((out.flatMap pcell)[j]) := by
      have : (cur.toList.take (out.length * 2))[j]? = (out.flatMap pcell)[j]? := by rw [ht]
      rw [List.getElem?_take, if_pos (by omega), List.getElem?_eq_getElem hj'] at this
      simpa using this
    exact ⟨by simp [World.cell?, hh, hx], by simp [World.frozen?, hh]⟩

theorem sort_call (OB base : Nat) (out : List (Nat × Nat)) (ov : Value) (w : World) (hown : w.ownsRow base 59 2 ov out.length (out.flatMap pcell)) (hOB : w.cell? ⟨OB, 0, none⟩ = some ov) (hOB2 : OB < base)
    (hsz : out.length < 1099511627776) :
    Calls Tryz.prog 182 #[.iface 57 ov, .func (.func 183) #[] #[.pointer (some ⟨OB, 0, none⟩)]] w (SortPost out base ov w) := by
  have hOBl : OB < w.heap.size := cell_lt hOB
  by_cases h1 : out.length ≤ 1
  · obtain ⟨p, c, hv⟩ : ∃ p c, ov = .slice p out.length c := by
      rcases hown.2 with ⟨h, h0⟩ | ⟨g, cap, cur, h, _⟩
      · exact ⟨none, 0, by rw [h, h0]⟩
      · exact ⟨_, _, h⟩
    have hpw : out.Pairwise (fun a b => a.1 ≤ b.1) := by
      match out, h1 with
      | [], _ => exact .nil
      | [x], _ => exact List.pairwise_singleton _ _
    have hf : ∃ f, Tryz.prog.funcs.findIdx? (·.name == "internal/reflectlite" ++ ".Swapper$" ++ toString (Lib.swapperK out.length svE 17)) = some f := by
      match out, h1 with
      | [], _ => exact ⟨198, by kernel_rfl⟩
      | [x], _ => exact ⟨199, by kernel_rfl⟩
    obtain ⟨f, hf⟩ := hf
    subst hv
    refine (Any.sort_Slice_tiny (P := Tryz.prog) Tryz.laysGg6 57 59 svT svE (by kernel_rfl) (by kernel_rfl) (by kernel_rfl) (by kernel_rfl) 17 (fun _ => by kernel_rfl) p out.length c h1 f hf (.func 183) #[] #[.pointer (some ⟨OB, 0, none⟩)] w).mono ?_
    rintro e w' ⟨rfl, os, rfl⟩
    exact ⟨rfl, out, List.Perm.refl _, hpw, hown.kept (grown_grow _ _ none) (by cases h : (Value.slice p out.length c).ownBlock <;> simp), grown_grow _ _ _⟩
  · obtain ⟨g, c, hv, hg⟩ : ∃ g c, ov = .slice (some ⟨g, 0, none⟩) out.length c ∧ base ≤ g := by
      rcases hown.2 with ⟨h, h0⟩ | ⟨g, cap, cur, h, hb, _⟩
      · omega
      · exact ⟨_, _, h, hb⟩
    subst hv
    have hgl : g < w.heap.size := (hown.lt g rfl).2
    have hH := holdsK_of_own out hown
    have hless : LessReadsK Tryz.prog 183 #[.pointer (some ⟨OB, 0, none⟩)] pcell 2 ltP g 0 out.toArray.size w := by
      intro m os dk hs i j hi hj
      have e : sortWorldK pcell 2 w g 0 m dk os = putRowK pcell 2 (grow (Sort.ahead w m) os) g 0 dk := by
        unfold sortWorldK; rw [putRowK_grow _ _ (Sort.ahead w m) _ g 0 _ hgl]
      have hHg : HoldsK pcell 2 (grow (Sort.ahead w m) os) g 0 out.toArray := holdsK_grow _ _ _ _ g 0 _ hgl (holdsK_ahead _ _ _ _ _ _ _ hH)
      have := less_pairs g c OB out.length (sortWorldK pcell 2 w g 0 m dk os) (fun t => (dk[t]!.1 : Int)) ?_ (fun t ht => ?_) i j (by simpa using hi) (by simpa using hj) (by omega)
      · refine this.mono ?_
        rintro e w' ⟨rfl, hq⟩
        exact ⟨by simp [ltP], hq⟩
      · rw [e, cell?_putRowK_other _ _ _ g 0 dk _ (by show OB ≠ g; omega), cell?_grow _ _ _ (by exact hOBl)]; exact hOB
      · rw [e]
        have := ((holdsK_putRowK _ _ _ g 0 out.toArray dk hHg hs).cell (i := t) (c := 0) (by simp at hs; omega) (by omega)).1
        rw [show (0 + t * 2 + 0 : Nat) = t * 2 by omega] at this
        exact this
    have hS := Any.sort_Slice_cells_sorted (P := Tryz.prog) Tryz.laysGg6 57 59 svT svE (by kernel_rfl) (by kernel_rfl) (by kernel_rfl) (by kernel_rfl) 17 (fun _ => by kernel_rfl) pcell 2 (fun _ => rfl) (by kernel_rfl) (fun _ => by kernel_rfl)
      (fun x v hv => by simp [pcell] at hv; rcases hv with rfl | rfl <;> rfl) ltP swo_ltP 183 _
      (enters_of Tryz.func183 (by kernel_rfl) rfl) g 0 c out.toArray (by simp; omega) (by simp; omega) 206 (by rw [svK _ (by simp; omega)]; kernel_rfl) false
      (fun args W => run_callFunc_extern Tryz.func206 (by kernel_rfl) (by kernel_rfl) (by kernel_rfl) (e := Extern.ReflectliteSwapper.swap false) (by kernel_rfl) args W) w hless hH hgl
    refine hS.mono ?_
    rintro e w' ⟨rfl, d', n, os, hp, hso, rfl⟩
    have hsz' : d'.size = out.length := by simpa using hp.1
    refine ⟨rfl, d'.toList, ?_, ?_, own_sorted d' hsz' hown, grown_sorted d'⟩
    · have := hp.2.2
      rw [show d'.extract 0 out.toArray.size = d' by simp [← hsz'], show out.toArray.extract 0 out.toArray.size = out.toArray by simp] at this
      simpa using this
    · rw [List.pairwise_iff_getElem]
      intro i j hi hj hij
      have := hso i j (Nat.zero_le _) hij (by simp at hj ⊢; omega)
      have hi' : i < d'.size := by simpa using hi
      have hj' : j < d'.size := by simpa using hj
      simp [ltP, hi', hj'] at this
      simpa using this
end
section
set_option linter.unusedVariables false
set_option linter.unusedSimpArgs false
open Go.RowKit

def BrkPost (rs ks : List Int) (w : World) (e : Ending) (w' : World) : Prop :=
  ∃ (v : Value) (l : List (Nat × Nat)), l.Perm (brkF rs ks (min rs.length ks.length) 0 [] []) ∧ l.Pairwise (fun a b => a.1 ≤ b.1) ∧ e = .returned v ∧
    w'.ownsRow w.heap.size 59 2 v l.length (l.flatMap pcell) ∧ Below w.heap.size w w'
/-- behind the sort -/
theorem brk_end {rs ks : List Int} {w wr w1 : World} {out : List (Nat × Nat)} {ov : Value} {M : Nat} (hM : M = min rs.length ks.length) (hF : out = brkF rs ks M 0 [] [])
    (hbel : Below w.heap.size w wr) (hsz : w.heap.size + 2 ≤ wr.heap.size) (hown : wr.ownsRow (w.heap.size + 2) 59 2 ov out.length (out.flatMap pcell)) {e : Ending} (h : SortPost out (w.heap.size + 2) ov wr e w1) :
    BrkPost rs ks w (.returned ov) w1 := by
  obtain ⟨_, l, hp, hs, ho, hg⟩ := h
  subst hM hF
  refine ⟨ov, l, hp, hs, rfl, ?_, hbel.grown hg (by omega) (fun k hk => by have := (hown.lt k hk).1; omega)⟩
  rw [hp.length_eq]
  exact ownsRow_base ho (by omega)
/-- the outer loop's relation -/
def BrkRel (rs ks : List Int) (M : Nat) (w : World) (s c : Value) (wr : World) : Prop :=
  ∃ (i m : Nat) (st : List (Nat × Int)) (out : List (Nat × Nat)) (ov : Value), i + m = M ∧ c = .int .i64 i ∧ st.length ≤ 63 ∧ s = .slice (some ⟨w.heap.size, 0, none⟩) st.length 63 ∧ out.length ≤ i ∧
    RowAt wr w.heap.size 244 126 (st.flatMap ocell) ∧ wr.cell? ⟨w.heap.size + 1, 0, none⟩ = some ov ∧ wr.frozen? ⟨w.heap.size + 1, 0, none⟩ = false ∧
    wr.ownsRow (w.heap.size + 2) 59 2 ov out.length (out.flatMap pcell) ∧ w.heap.size + 2 ≤ wr.heap.size ∧ Below w.heap.size w wr ∧
    brkF rs ks m i st out = brkF rs ks M 0 [] []

theorem brkF_step (rs ks : List Int) (m i : Nat) (st : List (Nat × Int)) (out : List (Nat × Nat)) (x y : Int) (pr : Int × Bool × Bool) (hx : ith rs i = x) (hy : ith ks i = y) (hp : pairI x = pr) :
    (pr.2.2 = false ∨ y ≠ 13 → brkF rs ks (m + 1) i st out = brkF rs ks m (i + 1) st out) ∧
    (pr.2.2 = true → y = 13 → pr.2.1 = true → st.length = 63 → brkF rs ks (m + 1) i st out = out) ∧
    (pr.2.2 = true → y = 13 → pr.2.1 = true → st.length ≠ 63 → brkF rs ks (m + 1) i st out = brkF rs ks m (i + 1) (st ++ [(i, pr.1)]) out) ∧
    (pr.2.2 = true → y = 13 → pr.2.1 = false → findTop st x st.length = none → brkF rs ks (m + 1) i st out = brkF rs ks m (i + 1) st out) ∧
    (∀ k, pr.2.2 = true → y = 13 → pr.2.1 = false → findTop st x st.length = some k → brkF rs ks (m + 1) i st out = brkF rs ks m (i + 1) (st.take k) (out ++ [((st.getD k (0, 0)).1, i)])) := by
  subst hx hy hp
  refine ⟨fun h => ?_, fun h1 h2 h3 h4 => ?_, fun h1 h2 h3 h4 => ?_, fun h1 h2 h3 h4 => ?_, fun k h1 h2 h3 h4 => ?_⟩
  · rw [brkF, if_pos h]
  · rw [brkF, if_neg (by simp [h1, h2]), if_pos h3, if_pos h4]
  · rw [brkF, if_neg (by simp [h1, h2]), if_pos h3, if_neg h4]
  · rw [brkF, if_neg (by simp [h1, h2]), if_neg (by simp [h3])]; simp only [h4]
  · rw [brkF, if_neg (by simp [h1, h2]), if_neg (by simp [h3])]; simp only [h4]

theorem rel_push {w wr w1 : World} {o : Obj} {st : List (Nat × Int)} {x : Nat × Int} {out : List (Nat × Nat)} {ov : Value} {t te : Nat}
    (hrow1 : RowAt w1 w.heap.size t 126 (st.flatMap ocell ++ [.int .i64 x.1, .int .i32 x.2])) (hgrow1 : (wr.alloc o).grownBy w1 (some w.heap.size))
    (hcell : wr.cell? ⟨w.heap.size + 1, 0, none⟩ = some ov) (hfro : wr.frozen? ⟨w.heap.size + 1, 0, none⟩ = false)
    (hown : wr.ownsRow (w.heap.size + 2) te 2 ov out.length (out.flatMap pcell)) (hsz : w.heap.size + 2 ≤ wr.heap.size) (hbel : Below w.heap.size w wr) :
    RowAt w1 w.heap.size t 126 ((st ++ [x]).flatMap ocell) ∧ w1.cell? ⟨w.heap.size + 1, 0, none⟩ = some ov ∧ w1.frozen? ⟨w.heap.size + 1, 0, none⟩ = false ∧
    w1.ownsRow (w.heap.size + 2) te 2 ov out.length (out.flatMap pcell) ∧ w.heap.size + 2 ≤ w1.heap.size ∧ Below w.heap.size w w1 := by
  have hb2 : ∀ k, k < wr.heap.size → k ≠ w.heap.size → w1.heap[k]? = wr.heap[k]? := fun k hk hne =>
    (hgrow1.block k (by simp; omega) (by simpa using hne)).trans (Below.heap_alloc wr o k hk)
  have hs1 : wr.heap.size + 1 ≤ w1.heap.size := by have := hgrow1.size; simpa using this
  refine ⟨by simpa [List.flatMap_append, ocell] using hrow1, ?_, ?_, ?_, by omega, ?_⟩
  · rw [World.cell?_of_block (w := wr) (hb2 _ (by show w.heap.size + 1 < _; omega) (by show w.heap.size + 1 ≠ _; omega))]; exact hcell
  · rw [World.frozen?_of_block (w := wr) (hb2 _ (by show w.heap.size + 1 < _; omega) (by show w.heap.size + 1 ≠ _; omega))]; exact hfro
  · refine (hown.alloc o).kept hgrow1 ?_
    cases hv : ov.ownBlock with
    | none => exact .inl rfl
    | some k => exact .inr (by have := (hown.lt k hv).1; intro e; cases e; omega)
  · exact (hbel.alloc (by omega) o).grown hgrow1 (by simp; omega) (fun k hk => by cases hk; omega)

theorem rel_close {w wo w1 : World} {st : List (Nat × Int)} {out : List (Nat × Nat)} {ov : Value} {t te tat i gg cap qn n : Nat} {o : Obj}
    (hown1 : w1.ownsRow (w.heap.size + 2) te 2 (.slice (some ⟨gg, 0, none⟩) (out.length + 1) cap) (out.length + 1) (out.flatMap pcell ++ [.int .i64 tat, .int .i64 i]))
    (hgrow : ((wo.drewN n).alloc o).grownBy w1 ov.ownBlock) (_hat : ov.ownBlock = some gg ∨ gg = wo.heap.size + 1) (_hlt : gg < w1.heap.size)
    (hcw : w1.cell? ⟨w.heap.size + 1, 0, none⟩ = some ov) (hfw : w1.frozen? ⟨w.heap.size + 1, 0, none⟩ = false)
    (hown : wo.ownsRow (w.heap.size + 2) te 2 ov out.length (out.flatMap pcell)) (hrow : RowAt wo w.heap.size t 126 (st.flatMap ocell)) (hsz : w.heap.size + 2 ≤ wo.heap.size) (hbel : Below w.heap.size w wo) :
    RowAt (w1.setCell ⟨w.heap.size + 1, 0, none⟩ (.slice (some ⟨gg, 0, none⟩) (out.length + 1) cap)) w.heap.size t 126 ((st.take qn).flatMap ocell) ∧
    (w1.setCell ⟨w.heap.size + 1, 0, none⟩ (.slice (some ⟨gg, 0, none⟩) (out.length + 1) cap)).cell? ⟨w.heap.size + 1, 0, none⟩ = some (.slice (some ⟨gg, 0, none⟩) (out.length + 1) cap) ∧
    (w1.setCell ⟨w.heap.size + 1, 0, none⟩ (.slice (some ⟨gg, 0, none⟩) (out.length + 1) cap)).frozen? ⟨w.heap.size + 1, 0, none⟩ = false ∧
    (w1.setCell ⟨w.heap.size + 1, 0, none⟩ (.slice (some ⟨gg, 0, none⟩) (out.length + 1) cap)).ownsRow (w.heap.size + 2) te 2 (.slice (some ⟨gg, 0, none⟩) (out.length + 1) cap) (out ++ [(tat, i)]).length ((out ++ [(tat, i)]).flatMap pcell) ∧
    w.heap.size + 2 ≤ (w1.setCell ⟨w.heap.size + 1, 0, none⟩ (.slice (some ⟨gg, 0, none⟩) (out.length + 1) cap)).heap.size ∧
    Below w.heap.size w (w1.setCell ⟨w.heap.size + 1, 0, none⟩ (.slice (some ⟨gg, 0, none⟩) (out.length + 1) cap)) := by
  have hs1 : wo.heap.size + 1 ≤ w1.heap.size := by have := hgrow.size; simpa using this
  have hro : ∀ k, ov.ownBlock = some k → w.heap.size + 2 ≤ k := fun k hk => (hown.lt k hk).1
  have hb1 : w1.heap[w.heap.size]? = wo.heap[w.heap.size]? :=
    (hgrow.block _ (by simp; omega) (fun e => by have := hro _ e.symm; omega)).trans (Below.heap_alloc (wo.drewN n) o _ (by show _ < wo.heap.size; omega))
  have hbel1 : Below w.heap.size w w1 := ((bl_drewN hbel n).alloc (by show _ ≤ wo.heap.size; omega) o).grown hgrow (by simp; omega) (fun k hk => by have := hro k hk; omega)
  refine ⟨?_, ?_, ?_, ?_, by simp [World.setCell]; omega, hbel1.setCell (by simp) _⟩
  · rw [flat_take2 _ _ (fun _ => rfl)]
    exact (hrow.take (qn * 2)).kept ((Below.heap_setCell _ _ _ _ (by show w.heap.size ≠ w.heap.size + 1; omega)).trans hb1)
  · exact cell_set hcw _
  · exact frozen_set hfw _
  · rw [List.length_append, List.length_singleton, List.flatMap_append]
    exact ownsRow_setCell_below hown1 (by show w.heap.size + 1 < _; omega) _

set_option maxRecDepth 100000 in
set_option maxHeartbeats 1000000 in
theorem Brackets_any (ra ka : Option Addr) (rs ks : List Int) (rc kc : Nat) (w : World) (hr : Rd .i32 w ra rs) (hk : Rd .i8 w ka ks) (hrn : rs.length ≤ 2097152) (hkn : ks.length ≤ 2097152) :
    Calls Tryz.prog 157 #[.slice ra rs.length rc, .slice ka ks.length kc] w (BrkPost rs ks w) := by
  obtain ⟨M, hM⟩ : ∃ M, M = min rs.length ks.length := ⟨_, rfl⟩
  have hM1 : M ≤ rs.length := by omega
  have hM2 : M ≤ ks.length := by omega
  have HM := Lib.hid hM
  clear hM
  obtain ⟨i29, hi29, hz29, ha29, hb29⟩ := info_parts (Tryz.info_two)
  obtain ⟨i41, hi41, _, hz41, _⟩ := info_parts (Tryz.info_open)
  go_enter Tryz.func157, Tryz.ntmps157
  go_wp2_with (fail)
  go_step3
  go_wp2_with (fail)
  go_step3
  go_upto_region 4 with (fail)
  go_cut [18, 19] (fun s18 s19 wx => s18 = .int .i64 M ∧ s19 = .int .i64 0 ∧ wx = (w.alloc (.cells Tryz.zeroCells244 244)).alloc (.cells #[.slice none 0 0] 57))
  case first =>
    go_wp2_with (fail)
    all_goals (go_meet; exact ⟨by have := HM.out; go_num, rfl, rfl⟩)
  case rest =>
    obtain ⟨rfl, rfl, rfl⟩ := hcut
    go_wp2_with (fail)
    go_loopw [6, 19] (fun s c wr => BrkRel rs ks M w s c wr) (fun _ c _ => M - (intOf c).toNat)
    case atStart =>
      refine ⟨0, M, [], [], .slice none 0 0, by omega, rfl, by simp, rfl, by simp, ⟨Tryz.zeroCells244, ?_, ?_, rfl, by simp⟩, ?_, ?_, World.ownsRow_nil _ _ _ _, by simp, ((Below.refl _ _).alloc (Nat.le_refl _) _).alloc (by simp) _, rfl⟩
      · rw [Below.heap_alloc _ _ _ (by simp)]; exact heap_alloc_new w _
      · as_aux_lemma => kernel_rfl
      · have := heap_alloc_new (w.alloc (.cells Tryz.zeroCells244 244)) (.cells #[.slice none 0 0] 57)
        rw [World.size_alloc] at this
        unfold World.cell?
        rw [this]
        rfl
      · have := heap_alloc_new (w.alloc (.cells Tryz.zeroCells244 244)) (.cells #[.slice none 0 0] 57)
        rw [World.size_alloc] at this
        unfold World.frozen?
        rw [this]
        rfl
    case round =>
      obtain ⟨i, m, st, out, ov, him, rfl, hst, rfl, hout, hrow, hcell, hfro, hown, hsz, hbel, hF⟩ := hrel
      have HIM := Lib.hid him
      clear him
      have HF := Lib.hid hF
      clear hF
      by_cases hlt : i < M
      · obtain ⟨rb, ro, rfl, hrb, hrc⟩ := hr.at hbel i (by omega)
        obtain ⟨kb, ko, rfl, hkb, hkc⟩ := hk.at hbel i (by omega)
        obtain ⟨m, rfl⟩ : ∃ q, m = q + 1 := ⟨m - 1, by have := HIM.out; omega⟩
        have hstep := fun (x y : Int) (pr : Int × Bool × Bool) (hx : ith rs i = x) (hy : ith ks i = y) (hp : pairI x = pr) => brkF_step rs ks m i st out x y pr hx hy hp
        have HS := Lib.hid hstep
        clear hstep
        generalize hx : ith rs i = x at hrc
        generalize hy : ith ks i = y at hkc
        have HX := Lib.hid hx
        have HY := Lib.hid hy
        clear hx hy
        have HP := Lib.hid (Pair_any x)
        unfold PairPost at HP
        generalize hpr : pairI x = pr at HP
        have HPR := Lib.hid hpr
        clear hpr
        obtain ⟨other, opens, ok⟩ := pr
        have hs := HS.out x y _ HX.out HY.out HPR.out
        clear HS
        cases ok
        · -- no bracket
          have HN := Lib.hid (hs.1 (.inl rfl))
          clear hs
          go_wp2_with (go_at_call 108; refine (HP.out _).mono ?_; rintro e w' ⟨rfl, rfl⟩)
          go_roundw
          case rel => exact ⟨i + 1, m, st, out, ov, by have := HIM.out; omega, by go_num, hst, rfl, by omega, hrow, hcell, hfro, hown, hsz, hbel, by rw [← HF.out, HN.out]⟩
          case measure => simp [intOf]; omega
        · by_cases h13 : y = 13
          · subst h13
            cases opens
            · -- a closing one
              clear hrb hkb
              have HS4 := Lib.hid (hs.2.2.2.1 rfl rfl rfl)
              have HS5 := Lib.hid (fun k => hs.2.2.2.2 k rfl rfl rfl)
              clear hs
              go_wp2_with (go_at_call 108; refine (HP.out _).mono ?_; rintro e w' ⟨rfl, rfl⟩)
              obtain ⟨wo, rfl⟩ : ∃ wo : World, wo = wr := ⟨_, rfl⟩
              go_loopw [6, 12] (fun s c wx => ∃ (q : Int) (nq : Nat), s = .slice (some ⟨w.heap.size, 0, none⟩) st.length 63 ∧ -1 ≤ q ∧ q < st.length ∧ c = .int .i64 q ∧ wx = wo.drewN nq ∧ findTop st x st.length = findTop st x (q + 1).toNat) (fun _ c _ => (intOf c + 1).toNat)
              case atStart => exact ⟨(st.length : Int) - 1, 0, rfl, by omega, by omega, rfl, rfl, by rw [show ((st.length : Int) - 1 + 1).toNat = st.length by omega]⟩
              case round =>
                obtain ⟨q, nq, rfl, hq1, hq2, rfl, rfl, hfind⟩ := hrel
                have HFIND := Lib.hid hfind
                clear hfind
                by_cases hq : 0 ≤ q
                · have hc0 := hrow.cell (q.toNat * 2) _ (flat_get2 st (0, 0) ocell _ _ (fun _ => rfl) q.toNat (by omega)).1
                  have hc1 := hrow.cell (q.toNat * 2 + 1) _ (flat_get2 st (0, 0) ocell _ _ (fun _ => rfl) q.toNat (by omega)).2
                  obtain ⟨qn, rfl⟩ := Int.eq_ofNat_of_zero_le hq
                  rw [Int.toNat_natCast] at hc0 hc1
                  have g1 : (0 : Int) ≤ (i : Int) := by omega
                  have g2 : (i : Int) < (rs.length : Int) := by omega
                  have hft : findTop st x (qn + 1) = if (st.getD qn (0, 0)).2 = x then some qn else findTop st x qn := rfl
                  generalize hget : st.getD qn (0, 0) = tp at hc0 hc1 hft
                  have HGET := Lib.hid hget
                  clear hget
                  obtain ⟨tat, toth⟩ := tp
                  by_cases hcmp : toth = x
                  · subst hcmp
                    rw [if_pos rfl] at hft
                    have HFT := Lib.hid hft
                    clear hft
                    have HN := Lib.hid (HS5.out qn (by rw [HFIND.out, show ((qn : Int) + 1).toNat = qn + 1 by omega]; exact HFT.out))
                    go_wp2_with (fail)
                    go_quiet (fail)
                    go_wp2_with (fail)
                    have ag : ov.ownBlock ≠ some (w.heap.size + 1) := fun e => by have := (hown.lt _ e).1; omega
                    have ar : ov.ownBlock ≠ some w.heap.size := fun e => by have := (hown.lt _ e).1; omega
                    have HOWN := Lib.hid hown
                    clear hown
                    have hcz : ∀ (n : Nat) (o : Obj), ((wo.drewN n).alloc o).cell? ⟨w.heap.size + 1, 0, none⟩ = some ov := fun n o => by
                      rw [World.cell?_of_block (w := wo) (Below.heap_alloc (wo.drewN n) o (w.heap.size + 1) (by show _ < wo.heap.size; omega))]; exact hcell
                    have hfz : ∀ (n : Nat) (o : Obj), ((wo.drewN n).alloc o).frozen? ⟨w.heap.size + 1, 0, none⟩ = false := fun n o => by
                      rw [World.frozen?_of_block (w := wo) (Below.heap_alloc (wo.drewN n) o (w.heap.size + 1) (by show _ < wo.heap.size; omega))]; exact hfro
                    go_region_law
                      ((refine step_append_lies _ (by rfl) _ _ _ (by rfl) (w.heap.size + 2) 59 i29 _ 2 16 Tryz.underlying57 hi29 hz29 ha29 hb29 rfl (by omega) ov out.length (out.flatMap pcell) (by rfl) (by exact ownsRow_drewN (HOWN.out.alloc _) _)
                          ⟨wo.heap.size, 0, none⟩ 1 1 [.int .i64 tat, .int .i64 i] (by rfl) (by rfl) (World.news_of_block (cs := #[.int .i64 tat, .int .i64 i]) (t := 59) (fr := (0, 0)) (heap_alloc_new _ _)) (by simp [Value.oneCell'])
                          (by omega) (by unfold maxLen; omega) (by omega) (by simp; omega) (wo.heap.size + 1) (by simp) ?_; intro gg cap w1 hown1 hgrow hat hlt; have hcw : w1.cell? ⟨w.heap.size + 1, 0, none⟩ = some ov := (hgrow.cell_far _ (by first | (simp; done) | (simp; omega)) (Ne.symm ag)).trans (hcz _ _); have hfw : w1.frozen? ⟨w.heap.size + 1, 0, none⟩ = false := (hgrow.frozen_far _ (by first | (simp; done) | (simp; omega)) (Ne.symm ag)).trans (hfz _ _)))
                    all_goals
                      have hr1 := rel_close (qn := qn) hown1 hgrow hat hlt hcw hfw HOWN.out hrow hsz hbel
                      clear hown1 hgrow hat hcw hfw hcz hfz
                      go_wp2_with (fail)
                      go_roundw
                      case rel => exact ⟨i + 1, m, st.take qn, out ++ [(tat, i)], _, by have := HIM.out; omega, by go_num, by rw [List.length_take]; omega, by rw [List.length_take, Nat.min_eq_left (by omega)], by rw [List.length_append, List.length_singleton]; omega, hr1.1, hr1.2.1, hr1.2.2.1, hr1.2.2.2.1, hr1.2.2.2.2.1, hr1.2.2.2.2.2, by rw [← HF.out, HN.out, HGET.out]⟩
                      case measure => simp [intOf]; omega
                  · rw [if_neg hcmp] at hft
                    have HFT := Lib.hid hft
                    clear hft
                    have hcmp' : (toth == x) = false := by simpa using hcmp
                    have HC := Lib.hid hcmp
                    clear hcmp
                    go_wp2_with (fail)
                    go_quiet (fail)
                    go_wp2_with (fail)
                    go_roundw
                    case rel => exact ⟨(qn : Int) - 1, _, rfl, by omega, by omega, rfl, rfl, by rw [HFIND.out, show ((qn : Int) + 1).toNat = qn + 1 by omega, HFT.out]; exact congrArg _ (by omega)⟩
                    case measure => simp [intOf]
                · have HN := Lib.hid (HS4.out (by rw [HFIND.out, show (q + 1).toNat = 0 by omega]; rfl))
                  go_wp2_with (fail)
                  go_roundw
                  case rel => exact ⟨i + 1, m, st, out, ov, by have := HIM.out; omega, by go_num, hst, rfl, by omega, hrow, hcell, hfro, ownsRow_drewN hown _, hsz, bl_drewN hbel _, by rw [← HF.out, HN.out]⟩
                  case measure => simp [intOf]; omega
            · -- an opening one
              by_cases hfull : st.length = 63
              · have HN := Lib.hid (hs.2.1 rfl rfl rfl hfull)
                clear hs
                have hf1 : ((st.length : Int) == 63) = true := by rw [hfull]; rfl
                have HFULL := Lib.hid hfull
                clear hfull
                go_wp2_with (go_at_call 108; refine (HP.out _).mono ?_; rintro e w' ⟨rfl, rfl⟩)
                change Calls Tryz.prog 182 _ _ _
                have hOBl : w.heap.size + 1 < wr.heap.size := by omega
                refine (sort_call (w.heap.size + 1) (w.heap.size + 2) out ov _ (by exact hown) (by exact hcell) (by omega) (by omega)).mono ?_
                intro e w1 hpost
                have hob : ov.ownBlock ≠ some (w.heap.size + 1) := fun e => by have := (hown.lt _ e).1; omega
                have hfin := brk_end (e := e) HM.out (by rw [← HF.out, HN.out]) hbel hsz hown hpost
                obtain ⟨rfl, l, hp, hsrt, ho, hg⟩ := hpost
                have hc1 : w1.cell? ⟨w.heap.size + 1, 0, none⟩ = some ov := (hg.cell_far _ (by exact hOBl) (Ne.symm hob)).trans hcell
                clear hp hsrt ho hg hown hrow
                have HFIN := Lib.hid hfin
                clear hfin
                go_wp2_with (fail)
                rw [Exit.noGoto_ret]
                go_ret
                exact HFIN.out
              · have HN := Lib.hid (hs.2.2.1 rfl rfl rfl hfull)
                clear hs
                have hf1 : ((st.length : Int) == 63) = false := by simp; omega
                go_wp2_with (first | (go_at_call 108; refine (HP.out _).mono ?_; rintro e w' ⟨rfl, rfl⟩) | (at_builtin; refine wpList_append_row _ rfl _ _ 245 rfl 243 i41 2 Tryz.underlying245 hi41 hz41 w.heap.size 244 126 st.length 63 (st.flatMap ocell) rfl (hrow.kept (Below.heap_alloc _ _ _ (by omega))) (flat_len2 _ ocell (fun _ => rfl)) ⟨wr.heap.size, 0, none⟩ 1 1 [.int .i64 i, .int .i32 other] rfl rfl (World.news_of_block (cs := #[.int .i64 i, .int .i32 other]) (t := 243) (fr := (0, 0)) (heap_alloc_new _ _)) (by simp [Value.oneCell']) (by omega) (by omega) ?_; intro w1 hrow1 hgrow1))
                have hr1 := rel_push (x := (i, other)) hrow1 hgrow1 hcell hfro hown hsz hbel
                clear hrow1 hgrow1
                go_roundw
                case rel => exact ⟨i + 1, m, st ++ [(i, other)], out, ov, by have := HIM.out; omega, by go_num, by rw [List.length_append, List.length_singleton]; omega, by simp, by omega, hr1.1, hr1.2.1, hr1.2.2.1, hr1.2.2.2.1, hr1.2.2.2.2.1, hr1.2.2.2.2.2, by rw [← HF.out, HN.out]⟩
                case measure => simp [intOf]; omega
          · have HN := Lib.hid (hs.1 (.inr h13))
            clear hs
            have h13' : (y != 13) = true := by simpa using h13
            have H13 := Lib.hid h13
            clear h13
            go_wp2_with (go_at_call 108; refine (HP.out _).mono ?_; rintro e w' ⟨rfl, rfl⟩)
            go_roundw
            case rel => exact ⟨i + 1, m, st, out, ov, by have := HIM.out; omega, by go_num, hst, rfl, by omega, hrow, hcell, hfro, hown, hsz, hbel, by rw [← HF.out, HN.out]⟩
            case measure => simp [intOf]; omega
      · have hiM : i ≤ M := by have := HIM.out; omega
        have hm0 : m = 0 := by have := HIM.out; omega
        have HF0 : Hid (out = brkF rs ks M 0 [] []) := by subst hm0; exact HF
        clear hm0
        go_wp2_with (fail)
        change Calls Tryz.prog 182 _ _ _
        have hOBl : w.heap.size + 1 < wr.heap.size := by omega
        refine (sort_call (w.heap.size + 1) (w.heap.size + 2) out ov _ (by exact hown) (by exact hcell) (by omega) (by omega)).mono ?_
        intro e w1 hpost
        have hob : ov.ownBlock ≠ some (w.heap.size + 1) := fun e => by have := (hown.lt _ e).1; omega
        have hfin := brk_end (e := e) HM.out HF0.out hbel hsz hown hpost
        obtain ⟨rfl, l, hp, hsrt, ho, hg⟩ := hpost
        have hc1 : w1.cell? ⟨w.heap.size + 1, 0, none⟩ = some ov := (hg.cell_far _ (by exact hOBl) (Ne.symm hob)).trans hcell
        clear hp hsrt ho hg hown hrow
        have HFIN := Lib.hid hfin
        clear hfin
        go_wp2_with (fail)
        rw [Exit.noGoto_ret]
        go_ret
        exact HFIN.out

/-- the same, the lengths said apart -/
theorem Brackets_len (ra ka : Option Addr) (rs ks : List Int) (nr nk rc kc : Nat) (w : World) (hnr : rs.length = nr) (hnk : ks.length = nk) (hr : Rd .i32 w ra rs) (hk : Rd .i8 w ka ks) (hrn : nr ≤ 2097152) (hkn : nk ≤ 2097152) :
    Calls Tryz.prog 157 #[.slice ra nr rc, .slice ka nk kc] w (BrkPost rs ks w) := by
  subst hnr hnk
  exact Brackets_any ra ka rs ks rc kc w hr hk hrn hkn
end
section
open Go.RowKit
set_option linter.unusedVariables false
set_option linter.unusedSimpArgs false

theorem Tryz.info_kind : (Tryz.prog.info? 22).map (fun i => (i.zero, i.size, i.bytes)) = some (some (.int .i8 0), 1, 1) := by kernel_rfl
theorem bits_level : ∀ l : Nat, l < 256 → bits .and .u8 (l : Int) 1 = ((l % 2 : Nat) : Int) := by decide +kernel
theorem decI_nonneg_or (xs : List Int) (p0 p1 : Nat) (e ahead : Int) : True := trivial
theorem ints_one (k : IntKind) (l : List Int) : ∀ u ∈ l.map (Value.int k), u.oneCell' = true := by
  intro u hu; obtain ⟨x, _, rfl⟩ := List.mem_map.1 hu; rfl
theorem rd_cells {k : IntKind} {w : World} {a : Option Addr} {xs : List Int} (h : Rd k w a xs) (m : Nat) (hm : m ≤ xs.length) :
    m = 0 ∨ ∃ ad, a = some ad ∧ ∀ j u, ((xs.take m).map (Value.int k))[j]? = some u → w.cell? (ad.add j) = some u := by
  rcases h with h | ⟨b, off, h1, h2, h3⟩
  · subst h; left; simpa using hm
  · refine .inr ⟨_, h1, fun j u hu => ?_⟩
    rw [List.getElem?_map, List.getElem?_take] at hu
    by_cases hj : j < m
    · rw [if_pos hj, ith_get (by omega)] at hu
      simp at hu
      subst hu
      have e : (⟨b, off, none⟩ : Addr).add j = ⟨b, off + j, none⟩ := by unfold Addr.add; split <;> simp_all
      rw [e]; exact h3 j (by omega)
    · rw [if_neg hj] at hu; simp at hu

theorem Rd.take {k : IntKind} {w : World} {a : Option Addr} {xs : List Int} (h : Rd k w a xs) (m : Nat) : Rd k w a (xs.take m) := by
  rcases h with h | ⟨b, off, h1, h2, h3⟩
  · subst h; exact .inl (by simp)
  · refine .inr ⟨b, off, h1, h2, fun i hi => ?_⟩
    rw [List.length_take] at hi
    rw [h3 i (by omega)]
    have : ith (xs.take m) i = ith xs i := by unfold ith; rw [List.getD_eq_getElem?_getD, List.getD_eq_getElem?_getD, List.getElem?_take, if_pos (by omega)]
    rw [this]
theorem out_start {w : World} {base e M : Nat} {v : Value} {ks : List Int} (h : w.ownsRow base e 1 v (0 + M) ([] ++ (ks.take M).map (Value.int .i8))) (hM : M ≤ ks.length) :
    ∃ ao cap, v = .slice ao M cap ∧ OutAt .i8 e w base ao cap (ks.take M) := by
  rw [Nat.zero_add, List.nil_append] at h
  exact OutAt.of h (by simp; omega)

theorem pairs_in {rs out : List Int} {M : Nat} {l : List (Nat × Nat)} (hp : l.Perm (brkF (rs.take M) out (min (rs.take M).length out.length) 0 [] [])) (h1 : (rs.take M).length = M) (h2 : out.length = M) :
    ∀ t, t < l.length → (l.getD t (0, 0)).1 < (l.getD t (0, 0)).2 ∧ (l.getD t (0, 0)).2 < M := by
  intro t ht
  have := brkF_mem (rs.take M) out (min (rs.take M).length out.length) 0 [] [] (by simp) (by simp) _ (hp.mem_iff.1 (getD_mem l (0, 0) t ht))
  rw [h1, h2] at this
  omega
theorem drop_cons {α : Type} (l : List α) (d : α) (t : Nat) (h : t < l.length) : l.drop t = l.getD t d :: l.drop (t + 1) := by
  rw [List.drop_eq_getElem_cons h]; simp [h]
/-- the relation of the loop over the pairs -/
def PairRel (rs : List Int) (M : Nat) (E : Int) (B2 : Nat) (w : World) (ao : Option Addr) (cap : Nat) (pa : Option Addr) (pcap : Nat) (l : List (Nat × Nat)) (RES : List Int) (sa sh sc : Value) (wx : World) : Prop :=
  ∃ (t at' : Nat) (ahead : Int) (xs : List Int), t ≤ l.length ∧ sa = .int .i64 at' ∧ at' ≤ M ∧ sh = .int .i8 ahead ∧ 0 ≤ ahead ∧ ahead ≤ 1 ∧ sc = .int .i64 t ∧ xs.length = M ∧
    OutAt .i8 22 wx w.heap.size ao cap xs ∧ PairsAt wx B2 pa pcap l ∧ Below w.heap.size w wx ∧ B2 ≤ wx.heap.size ∧ resF rs M E (l.drop t) at' ahead xs = RES
theorem wayI_bd (y : Int) : -1 ≤ wayI y ∧ wayI y ≤ 1 := by
  unfold wayI; split
  · omega
  · split <;> omega
theorem decF_bd (xs : List Int) (e ahead : Int) (h0 : 0 ≤ e) (h1 : e ≤ 1) (a0 : 0 ≤ ahead) (a1 : ahead ≤ 1) : ∀ (m i : Nat) (acc : Int), -1 ≤ acc → acc ≤ 1 → -1 ≤ decF xs e ahead m i acc ∧ decF xs e ahead m i acc ≤ 1
  | 0, _, acc, h, h' => ⟨h, h'⟩
  | m + 1, i, acc, h, h' => by
    unfold decF
    split
    · omega
    · split
      · exact decF_bd xs e ahead h0 h1 a0 a1 m (i + 1) acc h h'
      · exact decF_bd xs e ahead h0 h1 a0 a1 m (i + 1) ahead (by omega) a1
theorem decI_bd (xs : List Int) (p0 p1 : Nat) (e ahead : Int) (h0 : 0 ≤ e) (h1 : e ≤ 1) (a0 : 0 ≤ ahead) (a1 : ahead ≤ 1) : -1 ≤ decI xs p0 p1 e ahead ∧ decI xs p0 p1 e ahead ≤ 1 :=
  decF_bd xs e ahead h0 h1 a0 a1 _ _ (-1) (by omega) (by omega)
theorem pairs_len {base cap : Nat} {w : World} {pa : Option Addr} {l : List (Nat × Nat)} (h : PairsAt w base pa cap l) : l.length ≤ maxLen := by
  rcases h.2 with ⟨h1, h0⟩ | ⟨g, cap', cur, h1, hb, hh, hc, hm, hs, ht⟩
  · rw [h0]; exact Nat.zero_le _
  · exact Nat.le_trans hc hm
theorem runF_bd (out : List Int) : ∀ (m j : Nat), j ≤ runF out m j ∧ runF out m j ≤ j + m
  | 0, j => ⟨Nat.le_refl _, Nat.le_refl _⟩
  | m + 1, j => by
    unfold runF
    split
    · have := runF_bd out m (j + 1); omega
    · omega
theorem restF_out (n : Nat) (e sos eos : Int) (f i : Nat) (out : List Int) (hi : i < n) :
    (0 ≤ wayI (ith out i) → restF n e sos eos (f + 1) i out = restF n e sos eos f (i + 1) out) ∧
    (wayI (ith out i) < 0 → restF n e sos eos (f + 1) i out = restF n e sos eos f (runF out (n - i) i) (fillF (fillI n e sos eos i (runF out (n - i) i) out) (runF out (n - i) i - i) i out)) := by
  refine ⟨fun h => ?_, fun h => ?_⟩
  · rw [restF, if_pos hi, if_pos h]
  · rw [restF, if_pos hi, if_neg (by omega)]
def ResPost (rs ks : List Int) (level sos eos : Int) (w : World) (e : Ending) (w' : World) : Prop :=
  ∃ (v : Value) (l : List (Nat × Nat)), l.Perm (brkF (rs.take (min rs.length ks.length)) (alF (min rs.length ks.length) 0 (ks.take (min rs.length ks.length))) (min rs.length ks.length) 0 [] []) ∧ l.Pairwise (fun a b => a.1 ≤ b.1) ∧
    e = .returned v ∧ (resolveF rs ks level sos eos l).length = min rs.length ks.length ∧ w'.ownsRow w.heap.size 22 1 v (min rs.length ks.length) ((resolveF rs ks level sos eos l).map (Value.int .i8)) ∧ Below w.heap.size w w'
theorem res_end {rs ks o0 out xs zs RES FIN : List Int} {level M cap : Nat} {sos eos E : Int} {l : List (Nat × Nat)} {w w' : World} {ao : Option Addr} {e : Ending}
    (hM : M = min rs.length ks.length) (hT : ks.take M = o0) (hF1 : out = alF M 0 o0) (hE : ((level % 2 : Nat) : Int) = E) (hperm : l.Perm (brkF (rs.take M) out (min (rs.take M).length out.length) 0 [] []))
    (hsort : l.Pairwise (fun a b => a.1 ≤ b.1)) (hLR : (rs.take M).length = M) (hlen : out.length = M) (hRES : RES = resF rs M E l 0 (sideI sos) out) (hXE : xs = RES)
    (hFIN : FIN = restF M E (sideI sos) (sideI eos) (M + 1) 0 xs) (hF2 : zs = FIN) (he : e = .returned (.slice ao M cap)) (hzl : zs.length = M) (hZ : OutAt .i8 22 w' w.heap.size ao cap zs) (hb : Below w.heap.size w w') :
    ResPost rs ks level sos eos w e w' := by
  have hz : zs = resolveF rs ks level sos eos l := by
    rw [hF2, hFIN, hXE, hRES, hF1, ← hT, ← hE, hM]
    rfl
  subst hM
  refine ⟨_, l, ?_, hsort, he, by rw [← hz]; exact hzl, ?_, hb⟩
  · rw [hLR, hlen, Nat.min_self] at hperm
    rw [hT, ← hF1]
    exact hperm
  · rw [← hz]
    unfold OutAt at hZ
    rw [hzl] at hZ
    exact hZ

set_option maxRecDepth 100000 in
set_option maxHeartbeats 1000000 in
theorem Resolve_any (ra ka : Option Addr) (rs ks : List Int) (rc kc : Nat) (level : Nat) (sos eos : Int) (w : World) (hr : Rd .i32 w ra rs) (hk : Rd .i8 w ka ks) (hrn : rs.length ≤ 2097152) (hkn : ks.length ≤ 2097152)
    (hrc : rs.length ≤ rc) (hkc : ks.length ≤ kc) (hl : level < 256) :
    Calls Tryz.prog 130 #[.slice ra rs.length rc, .slice ka ks.length kc, .int .u8 level, .int .i8 sos, .int .i8 eos] w (ResPost rs ks level sos eos w) := by
  obtain ⟨M, hM⟩ : ∃ M, M = min rs.length ks.length := ⟨_, rfl⟩
  have hM1 : M ≤ rs.length := by omega
  have hM2 : M ≤ ks.length := by omega
  have HM := Lib.hid hM
  clear hM
  obtain ⟨i33, hi33, hz33, ha33, hb33⟩ := info_parts (Tryz.info_kind)
  have hsrc := rd_cells hk M hM2
  have hlenT : ((ks.take M).map (Value.int .i8)).length = M * 1 := by simp; omega
  have HLT := Lib.hid hlenT
  clear hlenT
  go_enter Tryz.func130, Tryz.ntmps130
  go_upto_region 1 with (fail)
  go_cut [11] (fun s11 wx => s11 = .int .i64 M ∧ wx = w)
  case first =>
    go_wp2_with (fail)
    all_goals (go_meet; exact ⟨by have := HM.out; go_num, rfl⟩)
  case rest =>
    obtain ⟨rfl, hwc⟩ := hcut
    have hwc' := hwc.symm
    clear hwc
    subst hwc'
    go_wp2_with (at_builtin; refine wpList_append_src _ rfl (.const (.slice none 0 0)) (.tmp 36) 142 rfl w.heap.size 22 i33 (.int .i8 0) 1 1 Tryz.underlying142 hi33 hz33 ha33 hb33 rfl (by decide) (.slice none 0 0) 0 [] rfl (World.ownsRow_nil _ _ _ _) _ M _ ((ks.take M).map (Value.int .i8)) rfl HLT.out hsrc (ints_one _ _) (by unfold maxLen; omega) (by omega) (Nat.le_refl _) ?_; intro v1 w1 hown1 hgrow1; obtain ⟨ao, cap, rfl, hO⟩ := out_start hown1 hM2)
    have hb1 := (Below.refl w.heap.size w).grown hgrow1 (Nat.le_refl _) (fun q hq => by cases hq)
    clear hown1 hgrow1 hsrc HLT
    have HK := Lib.hid hk
    clear hk
    have ho0 : (ks.take M).length = M := by simp; omega
    generalize hT : ks.take M = o0 at hO ho0
    have HT := Lib.hid hT
    have HO0 := Lib.hid ho0
    clear hT ho0
    go_loopw [40] (fun c wr => ∃ (i m : Nat) (out : List Int), i + m = M ∧ c = .int .i64 i ∧ out.length = M ∧ OutAt .i8 22 wr w.heap.size ao cap out ∧ Below w.heap.size w wr ∧ alF m i out = alF M 0 o0) (fun c _ => M - (intOf c).toNat)
    case atStart => exact ⟨0, M, o0, by omega, rfl, HO0.out, hO, hb1, rfl⟩
    case round =>
      obtain ⟨i, m, out, him, rfl, hlen, hO', hbel, hF⟩ := hrel
      have HIM := Lib.hid him
      have HLEN := Lib.hid hlen
      have HF := Lib.hid hF
      clear him hlen hF
      by_cases hlt : i < M
      · obtain ⟨m, rfl⟩ : ∃ q, m = q + 1 := ⟨m - 1, by have := HIM.out; omega⟩
        have hstep : ∀ y, ith out i = y → alF (m + 1) i out = if y = 2 then alF m (i + 1) (out.set i 1) else alF m (i + 1) out := fun y hy => by rw [alF, hy]
        have HS := Lib.hid hstep
        clear hstep
        obtain ⟨G, hG, hGb, hGl, hGc, hGf, hcap, hcm⟩ := hO'.at i (by have := HLEN.out; omega)
        subst hG
        generalize hy : ith out i = y at hGc
        have HY := Lib.hid hy
        clear hy
        by_cases h2 : y = 2
        · subst h2
          have HN := Lib.hid (HS.out 2 HY.out)
          go_wp2_with (fail)
          go_roundw
          case rel => exact ⟨i + 1, m, out.set i 1, by have := HIM.out; omega, by go_num, by rw [List.length_set]; exact HLEN.out, hO'.set i 1, hbel.setCell (by exact hGb) _, by rw [← HF.out, HN.out]; rfl⟩
          case measure => simp [intOf]; omega
        · have h2' : (y == 2) = false := by simpa using h2
          have HN := Lib.hid ((HS.out y HY.out).trans (if_neg h2))
          clear h2
          go_wp2_with (fail)
          go_roundw
          case rel => exact ⟨i + 1, m, out, by have := HIM.out; omega, by go_num, HLEN.out, hO', hbel, by rw [← HF.out, HN.out]⟩
          case measure => simp [intOf]; omega
      · have hm0 : m = 0 := by have := HIM.out; omega
        have HF1 : Hid (out = alF M 0 o0) := by subst hm0; exact HF
        clear hm0 HF HIM
        have hbit := bits_level level hl
        go_upto_if 53 with (fail)
        clear hbit
        go_cut [15] (fun s15 wx => s15 = .int .i8 ((level % 2 : Nat) : Int) ∧ wx = wr)
        case first =>
          by_cases hodd : 0 < (level : Int) % 2
          · go_wp2_with (fail)
            go_meet
            exact ⟨by rw [show level % 2 = 1 by omega]; rfl, rfl⟩
          · go_wp2_with (fail)
            go_meet
            exact ⟨by rw [show level % 2 = 0 by omega]; rfl, rfl⟩
        case rest =>
          obtain ⟨rfl, hwc⟩ := hcut
          have hwc' := hwc.symm
          clear hwc
          subst hwc'
          have hE0 : 0 ≤ ((level % 2 : Nat) : Int) ∧ ((level % 2 : Nat) : Int) ≤ 1 := by omega
          generalize hE : ((level % 2 : Nat) : Int) = E at hE0
          have HE := Lib.hid hE
          clear hE
          have hS0 : 0 ≤ sideI sos ∧ sideI sos ≤ 1 := by unfold sideI; split <;> omega
          have hS1 : 0 ≤ sideI eos ∧ sideI eos ≤ 1 := by unfold sideI; split <;> omega
          have hlenR : (rs.take M).length = M := by simp; omega
          have HLR := Lib.hid hlenR
          clear hlenR
          have hrd : Rd .i32 wr ra (rs.take M) := (hr.take M).below hbel
          have HRD := Lib.hid hrd
          clear hrd
          have HORD := Lib.hid hO'.rd
          have hlO : out.length ≤ 2097152 := by have := HLEN.out; omega
          clear hlO
          go_wp2_with (first | (go_at_call 156; refine (side_any _ _).mono ?_; rintro e w' ⟨rfl, rfl⟩) | (go_at_call 157; refine (Brackets_len _ _ (rs.take M) out M M _ _ _ HLR.out HLEN.out HRD.out HORD.out (by omega) (by omega)).mono ?_; rintro e w2 ⟨pv, l, hperm, hsort, rfl, hpown, hbel2⟩; obtain ⟨pa, pcap, rfl, hP⟩ := PairsAt.of hpown; clear hpown))
          have hmem : ∀ t, t < l.length → (l.getD t (0, 0)).1 < (l.getD t (0, 0)).2 ∧ (l.getD t (0, 0)).2 < M := pairs_in hperm HLR.out HLEN.out
          have HMEM := Lib.hid hmem
          clear hmem
          have hO2 := hO'.keep hbel2
          have hbelW := hbel.trans (hbel2.mono hbel.size)
          have hGB : ∀ G, ao = some ⟨G, 0, none⟩ → G < wr.heap.size := fun G hG => by subst hG; exact hO'.lt.2
          obtain ⟨RES, hRES⟩ : ∃ R, R = resF rs M E l 0 (sideI sos) out := ⟨_, rfl⟩
          have HRES := Lib.hid hRES
          clear hRES
          have hB2 := hbel2.size
          have hll := pairs_len hP
          unfold maxLen at hll
          generalize hBB : wr.heap.size = B2 at hB2 hP hGB
          have HBB := Lib.hid hBB
          clear hBB hO' HORD HRD
          have HSORT := Lib.hid hsort
          have HPERM := Lib.hid hperm
          clear hsort hperm
          have hbB2 : w.heap.size ≤ B2 := by rw [← HBB.out]; exact hbel.size
          clear hbel hbel2
          go_loopw [16, 17, 65] (fun sa sh sc wx => PairRel rs M E B2 w ao cap pa pcap l RES sa sh sc wx) (fun _ _ c _ => l.length - (intOf c).toNat)
          case atStart => exact ⟨0, 0, sideI sos, out, by omega, rfl, by omega, rfl, hS0.1, hS0.2, rfl, HLEN.out, hO2, hP, hbelW, hB2, by rw [HRES.out]; rfl⟩
          case round =>
            obtain ⟨t, at', ahead, xs, htl, rfl, hatM, rfl, ha0, ha1, rfl, hxl, hX, hPX, hbx, hBx, hF⟩ := hrel
            have HXL := Lib.hid hxl
            have HF := Lib.hid hF
            clear hxl hF
            by_cases hlt : t < l.length
            · obtain ⟨hp1, hp2⟩ := HMEM.out t hlt
              obtain ⟨PB, hPB, hPBb, hPBl, hc1, hc2⟩ := hPX.at t hlt
              subst hPB
              have hdrop := drop_cons l (0, 0) t hlt
              generalize hp : l.getD t (0, 0) = p at hp1 hp2 hc1 hc2 hdrop
              have HD := Lib.hid hdrop
              clear hdrop hp
              obtain ⟨p1, p2⟩ := p
              simp only at hp1 hp2 hc1 hc2
              go_wp2_with (fail)
              have hXA := hX.keep ((Below.refl _ _).alloc (Nat.le_refl _) (.cells #[.int .i64 p1, .int .i64 p2] 59))
              have hPA := hPX.keep ((Below.refl _ _).alloc (Nat.le_refl _) (.cells #[.int .i64 p1, .int .i64 p2] 59))
              have hbA := hbx.alloc hbx.size (.cells #[.int .i64 p1, .int .i64 p2] 59)
              have hPP0 : (wr.alloc (.cells #[.int .i64 p1, .int .i64 p2] 59)).cell? ⟨wr.heap.size, 0, none⟩ = some (.int .i64 p1) := by simp
              have hPP1 : (wr.alloc (.cells #[.int .i64 p1, .int .i64 p2] 59)).cell? ⟨wr.heap.size, 1, none⟩ = some (.int .i64 p2) := by simp
              have hWs : (wr.alloc (.cells #[.int .i64 p1, .int .i64 p2] 59)).heap.size = wr.heap.size + 1 := by simp
              have HWS := Lib.hid hWs
              clear hWs
              go_loop [16, 17] (fun sa sh => ∃ (q m : Nat) (ah : Int), q + m = at' + (p1 - at') ∧ at' ≤ q ∧ q ≤ M ∧ sa = .int .i64 q ∧ sh = .int .i8 ah ∧ 0 ≤ ah ∧ ah ≤ 1 ∧ aheadF xs m q ah = aheadF xs (p1 - at') at' ahead) (fun sa _ => p1 - (intOf sa).toNat)
              case atStart => exact ⟨at', p1 - at', ahead, rfl, by omega, hatM, rfl, rfl, ha0, ha1, rfl⟩
              case round =>
                obtain ⟨q, m, ah, hqm, hq1, hqM, rfl, rfl, hah0, hah1, hFA⟩ := hrel
                have HFA := Lib.hid hFA
                have HQM := Lib.hid hqm
                clear hFA hqm
                by_cases hq : q < p1
                · obtain ⟨m, rfl⟩ : ∃ m', m = m' + 1 := ⟨m - 1, by have := HQM.out; omega⟩
                  obtain ⟨G, hG, hGb, hGl, hGc, hGf, hcap, hcm⟩ := hXA.at q (by have := HXL.out; omega)
                  subst hG
                  have hstep : ∀ y, ith xs q = y → aheadF xs (m + 1) q ah = if 0 ≤ wayI y then aheadF xs m (q + 1) (wayI y) else aheadF xs m (q + 1) ah := fun y hy => by rw [aheadF, hy]
                  have HST := Lib.hid hstep
                  clear hstep
                  generalize hy : ith xs q = y at hGc
                  have HN := Lib.hid (HST.out y hy)
                  clear hy HST
                  have hway := wayI_bd y
                  by_cases hw : 0 ≤ wayI y
                  · go_wp2_with (go_at_call 158; refine (way_any _ _).mono ?_; rintro e w' ⟨rfl, rfl⟩)
                    go_round
                    case rel => exact ⟨q + 1, m, wayI y, by have := HQM.out; omega, by omega, by omega, by go_num, rfl, hw, hway.2, by rw [← HFA.out, HN.out, if_pos hw]⟩
                    case measure => simp [intOf]; omega
                  · go_wp2_with (go_at_call 158; refine (way_any _ _).mono ?_; rintro e w' ⟨rfl, rfl⟩)
                    go_round
                    case rel => exact ⟨q + 1, m, ah, by have := HQM.out; omega, by omega, by omega, by go_num, rfl, hah0, hah1, by rw [← HFA.out, HN.out, if_neg (by omega)]⟩
                    case measure => simp [intOf]; omega
                · have hqe : q = at' + (p1 - at') ∧ m = 0 := by have := HQM.out; omega
                  have HAH : Hid (ah = aheadF xs (p1 - at') at' ahead ∧ q = at' + (p1 - at')) := by
                    obtain ⟨h1, h2⟩ := hqe; subst h2; exact ⟨HFA.out, h1⟩
                  clear hqe HFA HQM
                  obtain ⟨G, hG, hGb, hGl, hGc, hGf, hcap, hcm⟩ := hXA.at p2 (by have := HXL.out; omega)
                  subst hG
                  have hcells : ∀ i, i < M → (wr.alloc (.cells #[.int .i64 p1, .int .i64 p2] 59)).cell? ⟨G, i, none⟩ = some (.int .i8 (ith xs i)) := fun i hi => by
                    obtain ⟨G', hG', _, _, hc, _⟩ := hXA.at i (by have := HXL.out; omega)
                    cases hG'; exact hc
                  have HCELLS := Lib.hid hcells
                  clear hcells hGc hGf
                  have hdb := decI_bd xs p1 p2 E ah hE0.1 hE0.2 hah0 hah1
                  have HDC := Lib.hid (decide_any G M cap p1 p2 xs E ah (wr.alloc (.cells #[.int .i64 p1, .int .i64 p2] 59)) hGl hp1 hp2 (by have := HXL.out; omega) hcm HCELLS.out)
                  generalize hkk : decI xs p1 p2 E ah = kk at hdb HDC
                  have HKK := Lib.hid hkk
                  clear hkk
                  by_cases hneg : kk < 0
                  · go_wp2_with (go_at_call 159; refine HDC.out.mono ?_; rintro e w5 ⟨rfl, hb5⟩)
                    have hX5 := hXA.keep hb5
                    have hP5 := hPA.keep hb5
                    have hb5w := hbA.trans (hb5.mono (by exact hbA.size))
                    go_roundw
                    case rel => exact ⟨t + 1, q, ah, xs, by omega, rfl, hqM, rfl, hah0, hah1, by go_num, HXL.out, hX5, hP5, hb5w, by have := hb5.size; have := HWS.out; omega, by
                      rw [← HF.out, HD.out, resF, ← HAH.out.1, HKK.out, if_pos hneg, ← HAH.out.2]⟩
                    case measure => simp [intOf]; omega
                  · have hkb : decide (kk < 0) = false := by simp; omega
                    go_wp2_with (go_at_call 159; refine HDC.out.mono ?_; rintro e w5 ⟨rfl, hb5⟩; have hq0 : w5.cell? ⟨wr.heap.size, 0, none⟩ = some (.int .i64 p1) := cell_bl hb5 (by have := HWS.out; omega) hPP0; have hq1' : w5.cell? ⟨wr.heap.size, 1, none⟩ = some (.int .i64 p2) := cell_bl hb5 (by have := HWS.out; omega) hPP1)
                    have hX5 := hXA.keep hb5
                    have hP5 := hPA.keep hb5
                    have hb5w := hbA.trans (hb5.mono (by exact hbA.size))
                    have hB5 : B2 ≤ w5.heap.size := by have := hb5.size; have := HWS.out; omega
                    clear hq0 hq1' hPP0 hPP1 hXA hPA hbA hb5 HDC HCELLS HWS hX hPX hbx hc1 hc2
                    have hGB2 : G < B2 := hGB G rfl
                    go_loopw [91] (fun sj wx => ∃ (n : Nat) (ys : List Int), n ≤ 2 ∧ sj = .int .i64 n ∧ ys.length = M ∧ OutAt .i8 22 wx w.heap.size (some ⟨G, 0, none⟩) cap ys ∧ PairsAt wx B2 (some ⟨PB, 0, none⟩) pcap l ∧ Below w.heap.size w wx ∧ B2 ≤ wx.heap.size ∧
                        ys = (if n = 0 then xs else if n = 1 then markF rs M kk p1 xs else markF rs M kk p2 (markF rs M kk p1 xs))) (fun sj _ => 2 - (intOf sj).toNat)
                    case atStart => exact ⟨0, xs, by omega, rfl, HXL.out, hX5, hP5, hb5w, hB5, rfl⟩
                    case round =>
                      obtain ⟨n, ys, hn2, rfl, hyl, hY, hPY, hbY, hBY, hYE⟩ := hrel
                      have HYL := Lib.hid hyl
                      have HYE := Lib.hid hYE
                      clear hyl hYE
                      by_cases hn : n < 2
                      · obtain ⟨b, hbM, hbix, hbn⟩ : ∃ b, b < M ∧ (#[Value.int .i64 (p1 : Int), Value.int .i64 (p2 : Int)])[n]? = some (.int .i64 (b : Int)) ∧ Hid (markF rs M kk b ys = if n + 1 = 1 then markF rs M kk p1 xs else markF rs M kk p2 (markF rs M kk p1 xs)) := by
                          have := HYE.out
                          rcases (show n = 0 ∨ n = 1 by omega) with rfl | rfl
                          · exact ⟨p1, by omega, rfl, by rw [this]; rfl⟩
                          · exact ⟨p2, by omega, rfl, by rw [this]; rfl⟩
                        have hix : ∀ w : World, (Instr.index 59 (.agg #[Value.int .i64 (p1 : Int), Value.int .i64 (p2 : Int)]) (.int .i64 n)).run Tryz.prog w = .ok (.int .i64 b) w := fun w =>
                          run_index_int w _ n _ Tryz.underlying59 Tryz.underlying3 (by kernel_rfl) hn hbix
                        clear hbix
                        obtain ⟨G', hG', hGb', hGl', hGc', hGf', _, _⟩ := hY.at b (by have := HYL.out; omega)
                        cases hG'
                        have hnb : decide ((n : Int) < 2) = true := by simp; omega
                        go_wp2_with (fail)
                        clear hGc' hGf'
                        have hY1 := hY.set b kk
                        have hPY1 := hPY.set (a := ⟨G, b, none⟩) (by exact hGB2) (.int .i8 kk)
                        have hbY1 := hbY.setCell (p := ⟨G, b, none⟩) (by exact hGb') (.int .i8 kk)
                        have hBY1 : B2 ≤ (wr.setCell ⟨G, b, none⟩ (.int .i8 kk)).heap.size := by simpa [World.setCell] using hBY
                        have HS0 : Hid (spreadF rs kk (M - (b + 1)) (b + 1) (ys.set b kk) = markF rs M kk b ys) := rfl
                        clear hY hPY hbY hBY hX5 hP5 hb5w hB5
                        clear HF HD HAH HKK HMEM HRES HSORT HPERM HLR HLEN HO0 HT HK HM HE HXL HF1 HBB hb1
                        go_loopw [24] (fun si wx => ∃ (i' m : Nat) (zs : List Int), i' + m = M ∧ si = .int .i64 i' ∧ zs.length = M ∧ OutAt .i8 22 wx w.heap.size (some ⟨G, 0, none⟩) cap zs ∧ PairsAt wx B2 (some ⟨PB, 0, none⟩) pcap l ∧ Below w.heap.size w wx ∧ B2 ≤ wx.heap.size ∧
                            spreadF rs kk m i' zs = markF rs M kk b ys) (fun si _ => M - (intOf si).toNat)
                        case atStart => exact ⟨b + 1, M - (b + 1), ys.set b kk, by omega, by go_num, by rw [List.length_set]; exact HYL.out, hY1, hPY1, hbY1, hBY1, HS0.out⟩
                        case round =>
                          obtain ⟨i', m, zs, him', rfl, hzl, hZ, hPZ, hbZ, hBZ, hFZ⟩ := hrel
                          have HIM' := Lib.hid him'
                          have HZL := Lib.hid hzl
                          have HFZ := Lib.hid hFZ
                          clear him' hzl hFZ hY1 hPY1 hbY1 hBY1
                          by_cases hi' : i' < M
                          · obtain ⟨m, rfl⟩ : ∃ m', m = m' + 1 := ⟨m - 1, by have := HIM'.out; omega⟩
                            obtain ⟨G1, hG1, hG1b, hG1l, hG1c, hG1f, _, _⟩ := hZ.at i' (by have := HZL.out; omega)
                            cases hG1
                            have hstep : ∀ y x, ith zs i' = y → ith rs i' = x → spreadF rs kk (m + 1) i' zs = if wayI y < 0 ∧ dirI x = 8 then spreadF rs kk m (i' + 1) (zs.set i' kk) else zs := fun y x hy hx => by rw [spreadF, hy, hx]
                            have HST := Lib.hid hstep
                            clear hstep
                            generalize hy : ith zs i' = y at hG1c
                            have HY := Lib.hid hy
                            clear hy
                            obtain ⟨rb, ro, hra, hrb, hrc'⟩ := hr.at hbZ i' (by omega)
                            subst hra
                            generalize hx : ith rs i' = x at hrc'
                            have HN := Lib.hid (HST.out y x HY.out hx)
                            clear hx HST HY
                            by_cases hw : wayI y < 0
                            · by_cases hd : dirI x = 8
                              · have hd' : (dirI x == 8) = true := by rw [hd]; rfl
                                have HN2 := Lib.hid (HN.out.trans (if_pos ⟨hw, hd⟩))
                                clear hd
                                go_wp2_with (first | (go_at_call 158; refine (way_any _ _).mono ?_; rintro e w' ⟨rfl, rfl⟩) | (go_at_call 100; refine (Dir_any _ _).mono ?_; rintro e w6 ⟨rfl, hb6⟩; have hZ6 := hZ.keep hb6; have hP6 := hPZ.keep hb6; have hbZ6 := hbZ.trans (hb6.mono hbZ.size); obtain ⟨G2, hG2, hG2b, hG2l, hG2c, hG2f, _, _⟩ := hZ6.at i' (by have := HZL.out; omega); cases hG2))
                                have hB6 := Nat.le_trans hBZ hb6.size
                                go_roundw
                                case rel => exact ⟨i' + 1, m, zs.set i' kk, by have := HIM'.out; omega, by go_num, by rw [List.length_set]; exact HZL.out, hZ6.set i' kk, hP6.set (by exact hGB2) _, hbZ6.setCell (by exact hG2b) _, by simpa [World.setCell] using hB6, by rw [← HFZ.out, HN2.out]⟩
                                case measure => simp [intOf]; omega
                              · have hd' : (dirI x == 8) = false := by simpa using hd
                                have HN2 := Lib.hid (HN.out.trans (if_neg (fun h => hd h.2)))
                                clear hd
                                go_wp2_with (first | (go_at_call 158; refine (way_any _ _).mono ?_; rintro e w' ⟨rfl, rfl⟩) | (go_at_call 100; refine (Dir_any _ _).mono ?_; rintro e w6 ⟨rfl, hb6⟩; have hZ6 := hZ.keep hb6; have hP6 := hPZ.keep hb6; have hbZ6 := hbZ.trans (hb6.mono hbZ.size)))
                                have hB6 := Nat.le_trans hBZ hb6.size
                                go_roundw
                                case rel => exact ⟨n + 1, zs, by omega, by go_num, HZL.out, hZ6, hP6, hbZ6, hB6, by rw [← HN2.out, HFZ.out]; exact hbn.out⟩
                                case measure => simp [intOf]; omega
                            · have HN2 := Lib.hid (HN.out.trans (if_neg (fun h => hw h.1)))
                              go_wp2_with (first | (go_at_call 158; refine (way_any _ _).mono ?_; rintro e w' ⟨rfl, rfl⟩))
                              go_roundw
                              case rel => exact ⟨n + 1, zs, by omega, by go_num, HZL.out, hZ, hPZ, hbZ, hBZ, by rw [← HN2.out, HFZ.out]; exact hbn.out⟩
                              case measure => simp [intOf]; omega
                          · have h0 : m = 0 := by have := HIM'.out; omega
                            have hm0 : zs = markF rs M kk b ys := by
                              subst h0; exact HFZ.out
                            have HZE := Lib.hid hm0
                            clear hm0
                            go_wp2_with (fail)
                            go_roundw
                            case rel => exact ⟨n + 1, zs, by omega, by go_num, HZL.out, hZ, hPZ, hbZ, hBZ, by rw [HZE.out]; exact hbn.out⟩
                            case measure => simp [intOf]; omega
                      · obtain rfl : n = 2 := by omega
                        go_wp2_with (fail)
                        go_roundw
                        case rel => exact ⟨t + 1, q, ah, ys, by omega, rfl, hqM, rfl, hah0, hah1, by go_num, HYL.out, hY, hPY, hbY, hBY, by
                          rw [← HF.out, HD.out, resF, ← HAH.out.1, HKK.out, if_neg (by omega), ← HAH.out.2, HYE.out]; rfl⟩
                        case measure => simp [intOf]; omega
            · have hxe : xs = RES := by
                have := HF.out
                rw [List.drop_of_length_le (by omega)] at this
                exact this
              have HXE := Lib.hid hxe
              clear hxe HF HMEM hP hO2 hbelW hPX
              obtain ⟨FIN, hFIN⟩ : ∃ R, R = restF M E (sideI sos) (sideI eos) (M + 1) 0 xs := ⟨_, rfl⟩
              have HFIN := Lib.hid hFIN
              clear hFIN
              generalize hS0e : sideI sos = S0 at hS0
              generalize hS1e : sideI eos = S1 at hS1
              have HS0E := Lib.hid hS0e
              have HS1E := Lib.hid hS1e
              clear hS0e hS1e
              have hxl := HXL.out
              go_wp2_with (fail)
              clear HXL
              have HXL := Lib.hid hxl
              clear hxl
              go_loopw [25] (fun si wx => ∃ (i' f : Nat) (zs : List Int), i' ≤ M ∧ M < i' + f ∧ si = .int .i64 i' ∧ zs.length = M ∧ OutAt .i8 22 wx w.heap.size ao cap zs ∧ Below w.heap.size w wx ∧ restF M E S0 S1 f i' zs = FIN) (fun si _ => M - (intOf si).toNat)
              case atStart => exact ⟨0, M + 1, xs, by omega, by omega, rfl, HXL.out, hX, hbx, by rw [HFIN.out, HS0E.out, HS1E.out]⟩
              case round =>
                obtain ⟨i', f, zs, hi'M, hf, rfl, hzl, hZ, hbZ, hFZ⟩ := hrel
                have HZL := Lib.hid hzl
                have HFZ := Lib.hid hFZ
                clear hzl hFZ hX hbx
                obtain ⟨f, rfl⟩ : ∃ f', f = f' + 1 := ⟨f - 1, by omega⟩
                by_cases hi' : i' < M
                · obtain ⟨G, hG, hGb, hGl, hGc, hGf, hcap, hcm⟩ := hZ.at i' (by have := HZL.out; omega)
                  subst hG
                  have hcells : ∀ i, i < M → wr.cell? ⟨G, i, none⟩ = some (.int .i8 (ith zs i)) ∧ wr.frozen? ⟨G, i, none⟩ = false := fun i hi => by
                    obtain ⟨G', hG', _, _, hc, hfr, _⟩ := hZ.at i (by have := HZL.out; omega)
                    cases hG'; exact ⟨hc, hfr⟩
                  have HCELLS := Lib.hid hcells
                  clear hcells hGf
                  have HR1 := Lib.hid (restF_out M E S0 S1 f i' zs hi')
                  by_cases hw : 0 ≤ wayI (ith zs i')
                  · have HN := Lib.hid (HR1.out.1 hw)
                    go_wp2_with (go_at_call 158; refine (way_any _ _).mono ?_; rintro e w' ⟨rfl, rfl⟩)
                    go_roundw
                    case rel => exact ⟨i' + 1, f, zs, by omega, by omega, by go_num, HZL.out, hZ, hbZ, by rw [← HFZ.out, HN.out]⟩
                    case measure => simp [intOf]; omega
                  · have hrun := runF_bd zs (M - i') i'
                    have hrun1 : i' + 1 ≤ runF zs (M - i') i' := by
                      obtain ⟨q, hq⟩ : ∃ q, M - i' = q + 1 := ⟨M - i' - 1, by omega⟩
                      rw [hq, runF, if_pos (by omega)]
                      exact (runF_bd zs q (i' + 1)).1
                    have HN := Lib.hid (HR1.out.2 (by omega))
                    generalize hj : runF zs (M - i') i' = jj at hrun hrun1 HN
                    have HJ := Lib.hid hj
                    clear hj HR1
                    go_upto_block 12 with (go_at_call 158; refine (way_any _ _).mono ?_; rintro e w' ⟨rfl, rfl⟩)
                    go_cut [26] (fun s26 wx => s26 = .int .i64 jj ∧ wx = wr)
                    case first =>
                      go_wp2_with (fail)
                      go_loop [26] (fun sj => ∃ (j m : Nat), j + m = M ∧ sj = .int .i64 j ∧ runF zs m j = jj) (fun sj => M - (intOf sj).toNat)
                      case atStart => exact ⟨i', M - i', by omega, rfl, HJ.out⟩
                      case round =>
                        obtain ⟨j, m, hjm, rfl, hFJ⟩ := hrel
                        have HJM := Lib.hid hjm
                        have HFJ := Lib.hid hFJ
                        clear hjm hFJ
                        by_cases hjM : j < M
                        · obtain ⟨m, rfl⟩ : ∃ m', m = m' + 1 := ⟨m - 1, by have := HJM.out; omega⟩
                          have hcj := (HCELLS.out j hjM).1
                          by_cases hwj : wayI (ith zs j) < 0
                          · go_wp2_with (go_at_call 158; refine (way_any _ _).mono ?_; rintro e w' ⟨rfl, rfl⟩)
                            go_round
                            case rel => exact ⟨j + 1, m, by have := HJM.out; omega, by go_num, by rw [← HFJ.out, runF, if_pos hwj]⟩
                            case measure => simp [intOf]; omega
                          · have hje : j = jj := by rw [← HFJ.out, runF, if_neg hwj]
                            have HJE := Lib.hid hje
                            clear hje
                            go_wp2_with (go_at_call 158; refine (way_any _ _).mono ?_; rintro e w' ⟨rfl, rfl⟩)
                            go_meet
                            exact ⟨by rw [HJE.out], rfl⟩
                        · have hm0 : m = 0 := by have := HJM.out; omega
                          have HJE : Hid (j = jj) := by subst hm0; exact HFJ.out
                          clear hm0
                          go_wp2_with (fail)
                          go_meet
                          exact ⟨by rw [HJE.out], rfl⟩
                    case rest =>
                      obtain ⟨rfl, hwc⟩ := hcut
                      have hwc' := hwc.symm
                      clear hwc
                      subst hwc'
                      obtain ⟨av, hav⟩ : ∃ a, a = if 0 < i' then wayI (ith zs (i' - 1)) else S0 := ⟨_, rfl⟩
                      obtain ⟨bv, hbv⟩ : ∃ a, a = if jj < M then wayI (ith zs jj) else S1 := ⟨_, rfl⟩
                      obtain ⟨kv, hkv⟩ : ∃ a, a = fillI M E S0 S1 i' jj zs := ⟨_, rfl⟩
                      have hkv2 : kv = if av = bv then av else E := by rw [hkv, fillI, hav, hbv]
                      have HAV := Lib.hid hav
                      have HBV := Lib.hid hbv
                      have HKV := Lib.hid hkv
                      have HKV2 := Lib.hid hkv2
                      clear hav hbv hkv hkv2
                      go_upto_if 155 with (fail)
                      go_cut [27] (fun s27 wx => s27 = .int .i8 av ∧ wx = wr)
                      case first =>
                        by_cases hi0 : 0 < i'
                        · have hc1 := (HCELLS.out (i' - 1) (by omega)).1
                          go_wp2_with (go_at_call 158; refine (way_any _ _).mono ?_; rintro e w' ⟨rfl, rfl⟩)
                          go_meet
                          exact ⟨by rw [HAV.out, if_pos hi0], rfl⟩
                        · go_wp2_with (fail)
                          go_meet
                          exact ⟨by rw [HAV.out, if_neg hi0], rfl⟩
                      case rest =>
                        obtain ⟨rfl, hwc⟩ := hcut
                        have hwc' := hwc.symm
                        clear hwc
                        subst hwc'
                        go_upto_if 164 with (fail)
                        go_cut [28] (fun s28 wx => s28 = .int .i8 bv ∧ wx = wr)
                        case first =>
                          by_cases hjM : jj < M
                          · have hc1 := (HCELLS.out jj hjM).1
                            go_wp2_with (go_at_call 158; refine (way_any _ _).mono ?_; rintro e w' ⟨rfl, rfl⟩)
                            go_meet
                            exact ⟨by rw [HBV.out, if_pos hjM], rfl⟩
                          · go_wp2_with (fail)
                            go_meet
                            exact ⟨by rw [HBV.out, if_neg hjM], rfl⟩
                        case rest =>
                          obtain ⟨rfl, hwc⟩ := hcut
                          have hwc' := hwc.symm
                          clear hwc
                          subst hwc'
                          go_upto_if 172 with (fail)
                          go_cut [27] (fun s27 wx => s27 = .int .i8 kv ∧ wx = wr)
                          case first =>
                            by_cases hab : av = bv
                            · have hab' : (av != bv) = false := by simpa using hab
                              have HAB := Lib.hid hab
                              clear hab
                              go_wp2_with (fail)
                              go_meet
                              exact ⟨by rw [HKV2.out, if_pos HAB.out], rfl⟩
                            · have hab' : (av != bv) = true := by simpa using hab
                              have HAB := Lib.hid hab
                              clear hab
                              go_wp2_with (fail)
                              go_meet
                              exact ⟨by rw [HKV2.out, if_neg HAB.out], rfl⟩
                          case rest =>
                            obtain ⟨rfl, hwc⟩ := hcut
                            have hwc' := hwc.symm
                            clear hwc
                            subst hwc'
                            go_wp2_with (fail)
                            have HFI : Hid (fillF kv (jj - i') i' zs = fillF (fillI M E S0 S1 i' jj zs) (jj - i') i' zs) := by rw [HKV.out]; exact Lib.hid rfl
                            clear HCELLS hGc
                            go_loopw [25] (fun si wx => ∃ (q m : Nat) (ys : List Int), q + m = jj ∧ si = .int .i64 q ∧ ys.length = M ∧ OutAt .i8 22 wx w.heap.size (some ⟨G, 0, none⟩) cap ys ∧ Below w.heap.size w wx ∧ fillF kv m q ys = fillF kv (jj - i') i' zs) (fun si _ => jj - (intOf si).toNat)
                            case atStart => exact ⟨i', jj - i', zs, by omega, rfl, HZL.out, hZ, hbZ, rfl⟩
                            case round =>
                              obtain ⟨q, m, ys, hqm, rfl, hyl, hY, hbY, hFY⟩ := hrel
                              have HQM := Lib.hid hqm
                              have HYL := Lib.hid hyl
                              have HFY := Lib.hid hFY
                              clear hqm hyl hFY hZ hbZ
                              by_cases hqj : q < jj
                              · obtain ⟨m, rfl⟩ : ∃ m', m = m' + 1 := ⟨m - 1, by have := HQM.out; omega⟩
                                obtain ⟨G1, hG1, hG1b, hG1l, hG1c, hG1f, _, _⟩ := hY.at q (by have := HYL.out; omega)
                                cases hG1
                                go_wp2_with (fail)
                                go_roundw
                                case rel => exact ⟨q + 1, m, ys.set q kv, by have := HQM.out; omega, by go_num, by rw [List.length_set]; exact HYL.out, hY.set q kv, hbY.setCell (by exact hG1b) _, by rw [← HFY.out]; rfl⟩
                                case measure => simp [intOf]; omega
                              · have hq : q = jj ∧ m = 0 := by have := HQM.out; omega
                                have HQ := Lib.hid hq
                                clear hq
                                go_wp2_with (fail)
                                go_roundw
                                case rel => exact ⟨q, f, ys, by have := HQ.out; omega, by have := HQ.out; omega, rfl, HYL.out, hY, hbY, by
                                  rw [← HFZ.out, HN.out, ← HFI.out, ← HFY.out, HQ.out.2, HQ.out.1]; rfl⟩
                                case measure => simp [intOf]; have := HQ.out; omega
                · have hfin : zs = FIN := by rw [← HFZ.out, restF, if_neg hi']
                  have HFIN2 := Lib.hid hfin
                  clear hfin
                  have hend := res_end (e := .returned (.slice ao M cap)) HM.out HT.out HF1.out HE.out HPERM.out HSORT.out HLR.out HLEN.out HRES.out HXE.out HFIN.out HFIN2.out rfl HZL.out hZ hbZ
                  have HEND := Lib.hid hend
                  clear hend
                  go_wp2_with (fail)
                  go_ret
                  exact HEND.out
end
end Go.Proofs.YtlbclfmbejjneaaGreatDoor
