/- Plain functions and laws of the layers 2, 7, 8, 9 and 10. -/
import Derived.WalkKit
import Derived.WalkSpells
import Derived.WalkLawsBesides
import Derived.Lib.Hide
namespace Go.Proofs.YtlbclfmbejjneaaGreatDoor
section
open Go.RowKit

/-- the i-th number of a list -/
def ith (l : List Int) (i : Nat) : Int := l.getD i 0

theorem ret_i {k : IntKind} {a b : Int} (h : a = b) : Ending.returned (.int k a) = .returned (.int k b) := by rw [h]
theorem ret_b {a b : Bool} (h : a = b) : Ending.returned (.bool a) = .returned (.bool b) := by rw [h]
theorem ret_ii {k k' : IntKind} {a b c d : Int} (h : a = b) (h' : c = d) : Ending.returned (.tuple #[.int k a, .int k' c]) = .returned (.tuple #[.int k b, .int k' d]) := by rw [h, h']
theorem ret_ibb {k : IntKind} {a b : Int} {c d x y : Bool} (h : a = b) (h' : c = d) (h'' : x = y) :
    Ending.returned (.tuple #[.int k a, .bool c, .bool x]) = .returned (.tuple #[.int k b, .bool d, .bool y]) := by rw [h, h', h'']

/-- All old cells and marks read as before. -/
theorem bcell {W w1 : World} (hb : Below W.heap.size W w1) :
    (∀ b o, b < W.heap.size → w1.cell? ⟨b, o, none⟩ = W.cell? ⟨b, o, none⟩) ∧ (∀ b o, b < W.heap.size → w1.frozen? ⟨b, o, none⟩ = W.frozen? ⟨b, o, none⟩) :=
  ⟨fun b o h => hb.cell (p := ⟨b, o, none⟩) h, fun b o h => hb.frozen (p := ⟨b, o, none⟩) h⟩
theorem bl_drewN {B : Nat} {a w : World} (h : Below B a w) (n : Nat) : Below B a (w.drewN n) := h.trans ⟨rfl, rfl, rfl, Nat.le_refl _, fun _ _ => rfl⟩
theorem cell_lt {w : World} {b o : Nat} {v : Value} (h : w.cell? ⟨b, o, none⟩ = some v) : b < w.heap.size := World.block_lt_of_cell? w ⟨b, o, none⟩ h
theorem cell_bl {B : Nat} {w w' : World} (h : Below B w w') {b o : Nat} {v : Value} (hB : b < B) (hc : w.cell? ⟨b, o, none⟩ = some v) : w'.cell? ⟨b, o, none⟩ = some v :=
  (h.cell (p := ⟨b, o, none⟩) hB).trans hc

/-- A list of integers that a slice reads as: empty, or at a block's place. -/
def Rd (k : IntKind) (w : World) (a : Option Addr) (xs : List Int) : Prop :=
  xs = [] ∨ ∃ b off, a = some ⟨b, off, none⟩ ∧ b < w.heap.size ∧ ∀ i, i < xs.length → w.cell? ⟨b, off + i, none⟩ = some (.int k (ith xs i))

theorem Rd.below {k : IntKind} {w w' : World} {a : Option Addr} {xs : List Int} (h : Rd k w a xs) (hb : Below w.heap.size w w') : Rd k w' a xs := by
  rcases h with h | ⟨b, off, h1, h2, h3⟩
  · exact .inl h
  · exact .inr ⟨b, off, h1, Nat.lt_of_lt_of_le h2 hb.size, fun i hi => cell_bl hb h2 (h3 i hi)⟩
theorem Rd.at {k : IntKind} {w wr : World} {a : Option Addr} {xs : List Int} (h : Rd k w a xs) (hb : Below w.heap.size w wr) (i : Nat) (hi : i < xs.length) :
    ∃ b off, a = some ⟨b, off, none⟩ ∧ b < w.heap.size ∧ wr.cell? ⟨b, off + i, none⟩ = some (.int k (ith xs i)) := by
  rcases h with h | ⟨b, off, h1, h2, h3⟩
  · subst h; simp at hi
  · exact ⟨b, off, h1, h2, cell_bl hb h2 (h3 i hi)⟩
theorem cell_set {w : World} {a : Addr} {v : Value} (h : w.cell? a = some v) (u : Value) : (w.setCell a u).cell? a = some u := World.cell?_setCell_same' w a u (by rw [h]; rfl)
theorem frozen_set {w : World} {a : Addr} {b : Bool} (h : w.frozen? a = b) (u : Value) : (w.setCell a u).frozen? a = b := by rw [World.frozen?_setCell]; exact h
end
section

/-- a number as it is asked -/
def known (r : Int) : Int := if r < 0 ∨ 1114111 < r ∨ (55296 ≤ r ∧ r ≤ 57343) then 65533 else r

theorem known_bd (r : Int) : 0 ≤ known r ∧ known r ≤ 1114111 := by unfold known; split <;> omega



/-- what a table of steps says of a number -/
def tabLook : List (Int × Int) → Int → Int
  | [], _ => 0
  | [x], _ => x.2
  | x :: y :: rest, r => if r < y.1 then x.2 else tabLook (y :: rest) r
def risesB : List (Int × Int) → Bool
  | x :: y :: rest => decide (x.1 < y.1) && risesB (y :: rest)
  | _ => true
theorem rises_le : ∀ (T : List (Int × Int)) (i : Nat), risesB T = true → i < T.length → (T.getD 0 (0, 0)).1 ≤ (T.getD i (0, 0)).1
  | [], _, _, h => by simp at h
  | [x], i, _, h => by
    obtain rfl : i = 0 := by simpa using h
    simp
  | x :: y :: rest, 0, _, _ => by simp
  | x :: y :: rest, i + 1, hs, h => by
    simp only [risesB, Bool.and_eq_true, decide_eq_true_eq] at hs
    have := rises_le (y :: rest) i hs.2 (by simpa using h)
    simp at this ⊢
    omega
theorem tabLook_of : ∀ (T : List (Int × Int)) (low : Nat) (r : Int), risesB T = true → low < T.length → (low = 0 ∨ (T.getD low (0, 0)).1 ≤ r) → (low + 1 = T.length ∨ r < (T.getD (low + 1) (0, 0)).1) →
    tabLook T r = (T.getD low (0, 0)).2
  | [], low, _, _, h, _, _ => by simp at h
  | [x], low, r, _, h, _, _ => by
    obtain rfl : low = 0 := by simpa using h
    simp [tabLook]
  | x :: y :: rest, 0, r, _, _, _, h2 => by
    simp only [tabLook]
    rcases h2 with h2 | h2
    · simp at h2
    · simp at h2; rw [if_pos h2]; simp
  | x :: y :: rest, low + 1, r, hs, h, h1, h2 => by
    simp only [risesB, Bool.and_eq_true, decide_eq_true_eq] at hs
    have hle := rises_le (y :: rest) low hs.2 (by simpa using h)
    simp only [List.getD_cons_succ] at h1 h2
    have h1' : ((y :: rest).getD low (0, 0)).1 ≤ r := by
      rcases h1 with h1 | h1
      · omega
      · exact h1
    simp only [tabLook]
    rw [if_neg (by rw [List.getD_cons_zero] at hle; omega)]
    exact tabLook_of (y :: rest) low r hs.2 (by simpa using h) (.inr h1') (by simpa using h2)

def tabSmall (T : List (Int × Int)) : Bool := T.all fun x => decide (0 ≤ x.2) && decide (x.2 ≤ 127)
theorem tabSmall_bd {T : List (Int × Int)} (h : tabSmall T = true) (i : Nat) : 0 ≤ (T.getD i (0, 0)).2 ∧ (T.getD i (0, 0)).2 ≤ 127 := by
  rw [List.getD_eq_getElem?_getD]
  cases hx : T[i]? with
  | none => simp
  | some x =>
    have := List.all_eq_true.1 h x (List.mem_of_getElem? hx)
    simpa using this

def dirsT : List (Int × Int) := [(0, 9), (9, 11), (10, 10), (11, 11), (12, 12), (13, 10), (14, 9), (28, 10), (31, 11), (32, 12), (33, 13), (35, 5), (38, 13), (43, 4), (44, 7), (45, 4), (46, 7), (48, 3), (58, 7), (59, 13), (65, 0), (91, 13), (97, 0), (123, 13), (127, 9), (133, 10), (134, 9), (160, 7), (161, 13), (162, 5), (166, 13), (173, 9), (174, 13), (176, 5), (178, 3), (180, 13), (185, 3), (186, 13), (192, 0), (215, 13), (216, 0), (247, 13), (248, 0), (768, 8), (880, 0), (1155, 8), (1162, 0), (1424, 1), (1425, 8), (1470, 1), (1471, 8), (1472, 1), (1473, 8), (1475, 1), (1476, 8), (1478, 1), (1479, 8), (1480, 1), (1536, 6), (1542, 13), (1544, 2), (1548, 7), (1549, 2), (1552, 8), (1563, 2), (1611, 8), (1632, 6), (1642, 5), (1643, 6), (1645, 2), (1648, 8), (1649, 2), (1750, 8), (1757, 6), (1758, 2), (1759, 8), (1765, 2), (1767, 8), (1769, 2), (1770, 8), (1774, 2), (1776, 3), (1786, 2), (1984, 1), (2144, 0), (3633, 8), (3634, 0), (3636, 8), (3643, 0), (3655, 8), (3663, 0), (5760, 12), (5761, 0), (6832, 8), (6912, 0), (7616, 8), (7680, 0), (8192, 12), (8203, 9), (8206, 0), (8207, 1), (8208, 13), (8232, 12), (8233, 10), (8234, 14), (8235, 15), (8236, 18), (8237, 16), (8238, 17), (8239, 7), (8240, 5), (8245, 13), (8287, 12), (8288, 9), (8294, 19), (8295, 20), (8296, 21), (8297, 22), (8298, 0), (8304, 3), (8314, 0), (8320, 3), (8330, 0), (8352, 5), (8400, 8), (8448, 0), (8592, 13), (8722, 4), (8723, 13), (9372, 0), (9472, 13), (11264, 0), (12288, 12), (12289, 13), (12293, 0), (12296, 13), (12321, 0), (12330, 8), (12334, 0), (12336, 13), (12337, 0), (12441, 8), (12443, 0), (64285, 1), (64336, 2), (65024, 8), (65040, 0), (65056, 8), (65072, 0), (65136, 2), (65279, 9), (65280, 0), (65281, 13), (65283, 5), (65286, 13), (65291, 4), (65292, 7), (65293, 4), (65294, 7), (65296, 3), (65306, 7), (65307, 13), (65313, 0), (65339, 13), (65345, 0), (65371, 13), (65382, 0), (65532, 13), (65534, 0), (67584, 1), (69632, 0), (127744, 13), (129792, 0)]
def dirI (r : Int) : Int := tabLook dirsT (known r)
/-- the brackets, an opening one and its closing one by turns -/
def brL : List Int := [40, 41, 91, 93, 123, 125, 12296, 12297, 12298, 12299, 12300, 12301, 12302, 12303, 12304, 12305, 12308, 12309, 12310, 12311, 12312, 12313, 12314, 12315, 65288, 65289, 65339, 65341, 65371, 65373]
/-- what class.Pair tells: the other one, whether it opens, whether it is a bracket -/
def pairAt : List Int → Int → Int × Bool × Bool
  | o :: c :: rest, r => if r = o then (c, true, true) else if r = c then (o, false, true) else pairAt rest r
  | _, _ => (0, false, false)
def pairI (r : Int) : Int × Bool × Bool := pairAt brL r

def farI (k : Nat) : Int := if k % 2 = 0 then (if (1 < k ∧ k < 6) ∨ 25 < k then 2 else 1) else (if (1 < k ∧ k < 6) ∨ 25 < k then -2 else -1)
theorem pair_hit : ∀ k, k < 30 → 40 ≤ ith brL k ∧ ith brL k ≤ 65373 ∧ (65339 ≤ ith brL k ↔ 25 < k) ∧ pairI (ith brL k) = (ith brL k + farI k, decide (k % 2 = 0), true) := by decide +kernel
theorem pair_miss : ∀ (l : List Int) (r : Int), (∀ x ∈ l, x ≠ r) → pairAt l r = (0, false, false)
  | [], _, _ => rfl
  | [_], _, _ => rfl
  | o :: c :: rest, r, h => by
    unfold pairAt
    rw [if_neg (fun e => h o (by simp) e.symm), if_neg (fun e => h c (by simp) e.symm)]
    exact pair_miss rest r (fun x hx => h x (by simp [hx]))
theorem pairI_miss (r : Int) (h : ∀ j, j < 30 → ith brL j ≠ r) : pairI r = (0, false, false) := by
  refine pair_miss brL r fun x hx e => ?_
  obtain ⟨j, hj, hx⟩ := List.mem_iff_getElem.1 hx
  exact h j (by simpa [brL] using hj) (by rw [ith, List.getD_eq_getElem?_getD, List.getElem?_eq_getElem hj]; simpa [hx] using e)
end
section

/-- the direction of a kind (0: left, 1: right), or -1 -/
def wayI (k : Int) : Int := if k = 0 then 0 else if k = 1 ∨ k = 2 ∨ k = 3 ∨ k = 6 then 1 else -1
def sideI (k : Int) : Int := if k = 1 then 1 else 0
def neutralB (k : Int) : Bool := decide (wayI k < 0)

/-- from place i on, m kinds: e, if one has the direction e; ahead, if one has the other; else what has been found so far -/
def decF (xs : List Int) (e ahead : Int) : Nat → Nat → Int → Int
  | 0, _, acc => acc
  | m + 1, i, acc => if wayI (ith xs i) = e then e else if wayI (ith xs i) = -1 then decF xs e ahead m (i + 1) acc else decF xs e ahead m (i + 1) ahead
def decI (xs : List Int) (p0 p1 : Nat) (e ahead : Int) : Int := decF xs e ahead (p1 - (p0 + 1)) (p0 + 1) (-1)


/-- the one opened last, among the k lowest, whose other one is r -/
def findTop (st : List (Nat × Int)) (r : Int) : Nat → Option Nat
  | 0 => none
  | k + 1 => if (st.getD k (0, 0)).2 = r then some k else findTop st r k
/-- the pairs in the order in which they are closed: m characters from place i on -/
def brkF (rs ks : List Int) : Nat → Nat → List (Nat × Int) → List (Nat × Nat) → List (Nat × Nat)
  | 0, _, _, out => out
  | m + 1, i, st, out =>
    if (pairI (ith rs i)).2.2 = false ∨ ith ks i ≠ 13 then brkF rs ks m (i + 1) st out
    else if (pairI (ith rs i)).2.1 = true then (if st.length = 63 then out else brkF rs ks m (i + 1) (st ++ [(i, (pairI (ith rs i)).1)]) out)
    else match findTop st (ith rs i) st.length with
      | none => brkF rs ks m (i + 1) st out
      | some k => brkF rs ks m (i + 1) (st.take k) (out ++ [((st.getD k (0, 0)).1, i)])


/-- DirAL counts as DirR -/
def alI (k : Int) : Int := if k = 2 then 1 else k
def alF : Nat → Nat → List Int → List Int
  | 0, _, out => out
  | m + 1, i, out => if ith out i = 2 then alF m (i + 1) (out.set i 1) else alF m (i + 1) out
/-- the direction of the last that has one, m from place i on; else what stood ahead -/
def aheadF (out : List Int) : Nat → Nat → Int → Int
  | 0, _, a => a
  | m + 1, i, a => if 0 ≤ wayI (ith out i) then aheadF out m (i + 1) (wayI (ith out i)) else aheadF out m (i + 1) a
/-- the marks behind a bracket become what it became -/
def spreadF (rs : List Int) (k : Int) : Nat → Nat → List Int → List Int
  | 0, _, out => out
  | m + 1, i, out => if wayI (ith out i) < 0 ∧ dirI (ith rs i) = 8 then spreadF rs k m (i + 1) (out.set i k) else out
def markF (rs : List Int) (n : Nat) (k : Int) (b : Nat) (out : List Int) : List Int := spreadF rs k (n - (b + 1)) (b + 1) (out.set b k)
/-- the pairs, one behind the other -/
def resF (rs : List Int) (n : Nat) (e : Int) : List (Nat × Nat) → Nat → Int → List Int → List Int
  | [], _, _, out => out
  | p :: ps, at', ahead, out =>
    if decI out p.1 p.2 e (aheadF out (p.1 - at') at' ahead) < 0 then resF rs n e ps (at' + (p.1 - at')) (aheadF out (p.1 - at') at' ahead) out
    else resF rs n e ps (at' + (p.1 - at')) (aheadF out (p.1 - at') at' ahead)
      (markF rs n (decI out p.1 p.2 e (aheadF out (p.1 - at') at' ahead)) p.2 (markF rs n (decI out p.1 p.2 e (aheadF out (p.1 - at') at' ahead)) p.1 out))
/-- where a stretch of neutral ones ends, m from place j on -/
def runF (out : List Int) : Nat → Nat → Nat
  | 0, j => j
  | m + 1, j => if wayI (ith out j) < 0 then runF out m (j + 1) else j
def fillF (k : Int) : Nat → Nat → List Int → List Int
  | 0, _, out => out
  | m + 1, i, out => fillF k m (i + 1) (out.set i k)
/-- what a stretch from i to j becomes -/
def fillI (n : Nat) (e sos eos : Int) (i j : Nat) (out : List Int) : Int :=
  if (if 0 < i then wayI (ith out (i - 1)) else sos) = (if j < n then wayI (ith out j) else eos) then (if 0 < i then wayI (ith out (i - 1)) else sos) else e
def restF (n : Nat) (e sos eos : Int) : Nat → Nat → List Int → List Int
  | 0, _, out => out
  | f + 1, i, out =>
    if i < n then
      if 0 ≤ wayI (ith out i) then restF n e sos eos f (i + 1) out
      else restF n e sos eos f (runF out (n - i) i) (fillF (fillI n e sos eos i (runF out (n - i) i) out) (runF out (n - i) i - i) i out)
    else out
/-- what pair.Resolve answers, l being the pairs -/
def resolveF (rs ks : List Int) (level sos eos : Int) (l : List (Nat × Nat)) : List Int :=
  restF (min rs.length ks.length) (level % 2) (sideI sos) (sideI eos) (min rs.length ks.length + 1) 0
    (resF rs (min rs.length ks.length) (level % 2) l 0 (sideI sos) (alF (min rs.length ks.length) 0 (ks.take (min rs.length ks.length))))
end
section

/-- a number as a class -/
def lkn (d : Int) : Int := if d < 0 ∨ 22 < d then 13 else d
theorem lkn_bd (d : Int) : 0 ≤ lkn d ∧ lkn d ≤ 22 := by unfold lkn; split <;> omega
/-- marks: what a mark stands on it is itself -/
def marksF : Nat → Nat → Int → List Int → List Int
  | 0, _, _, l => l
  | m + 1, i, sos, l =>
    if ith l i = 8 then marksF m (i + 1) (if 19 ≤ sos ∧ sos ≤ 22 then 13 else sos) (l.set i sos)
    else marksF m (i + 1) (if 19 ≤ ith l i ∧ ith l i ≤ 22 then 13 else ith l i) l
/-- digits behind Arabic letters -/
def arabicF : Nat → Nat → Int → List Int → List Int
  | 0, _, _, l => l
  | m + 1, i, sos, l =>
    if ith l i = 0 ∨ ith l i = 1 ∨ ith l i = 2 then arabicF m (i + 1) (ith l i) l
    else if ith l i = 3 ∧ sos = 2 then arabicF m (i + 1) sos (l.set i 6)
    else arabicF m (i + 1) sos l
def lettersF : Nat → Nat → List Int → List Int
  | 0, _, l => l
  | m + 1, i, l => if ith l i = 2 then lettersF m (i + 1) (l.set i 1) else lettersF m (i + 1) l
/-- a single separator between two digits: m places from i on, each with one on both sides -/
def sepF : Nat → Nat → List Int → List Int
  | 0, _, l => l
  | m + 1, i, l =>
    if ith l (i - 1) = ith l (i + 1) ∧ (ith l (i - 1) = 3 ∨ ith l (i - 1) = 6) ∧ (ith l i = 7 ∨ (ith l i = 4 ∧ ith l (i - 1) = 3)) then sepF m (i + 1) (l.set i (ith l (i - 1)))
    else sepF m (i + 1) l
/-- the first place from i on that is (b) or is not a terminator, m places being looked at -/
def seekF (b : Bool) (l : List Int) : Nat → Nat → Nat
  | 0, i => i
  | m + 1, i => if decide (ith l i = 5) = b then i else seekF b l m (i + 1)
def fillW (k : Int) : Nat → Nat → List Int → List Int
  | 0, _, l => l
  | m + 1, i, l => fillW k m (i + 1) (l.set i k)
/-- rows of terminators beside digits -/
def termF : Nat → Nat → List Int → List Int
  | 0, _, l => l
  | f + 1, i, l =>
    let a := seekF true l (l.length - i) i
    if a = l.length then l
    else
      let b := seekF false l (l.length - a) a
      if (0 < a ∧ ith l (a - 1) = 3) ∨ (b < l.length ∧ ith l b = 3) then termF f b (fillW 3 (b - a) a l) else termF f b l
def othersF : Nat → Nat → List Int → List Int
  | 0, _, l => l
  | m + 1, i, l => if ith l i = 4 ∨ ith l i = 5 ∨ ith l i = 7 then othersF m (i + 1) (l.set i 13) else othersF m (i + 1) l
/-- digits behind letters from left to right -/
def digitsF : Nat → Nat → Int → List Int → List Int
  | 0, _, _, l => l
  | m + 1, i, sos, l =>
    if ith l i = 0 ∨ ith l i = 1 then digitsF m (i + 1) (ith l i) l
    else if ith l i = 3 ∧ sos = 0 then digitsF m (i + 1) sos (l.set i 0)
    else digitsF m (i + 1) sos l
/-- what weak.Resolve answers -/
def weakF (ks : List Int) (sos : Int) : List Int :=
  let n := ks.length
  let s := if sos = 1 then (1 : Int) else 0
  digitsF n 0 s (othersF n 0 (termF (n + 1) 0 (sepF (n - 2) 1 (lettersF n 0 (arabicF n 0 s (marksF n 0 s (ks.map lkn)))))))
end
section

def leftB (d : Int) : Bool := decide (d = 9) || (decide (14 ≤ d) && decide (d ≤ 18))
def opensB (d : Int) : Bool := decide (19 ≤ d) && decide (d ≤ 21)
/-- the first strong one from place i on, m places being looked at, so deep in isolates -/
def firstF (ds : List Int) : Nat → Nat → Nat → Int
  | 0, _, _ => 13
  | m + 1, i, deep =>
    if opensB (lkn (ith ds i)) = true then firstF ds m (i + 1) (deep + 1)
    else if lkn (ith ds i) = 22 ∧ 0 < deep then firstF ds m (i + 1) (deep - 1)
    else if lkn (ith ds i) = 22 ∨ lkn (ith ds i) = 10 then 13
    else if deep = 0 ∧ (lkn (ith ds i) = 0 ∨ lkn (ith ds i) = 1 ∨ lkn (ith ds i) = 2) then lkn (ith ds i)
    else firstF ds m (i + 1) deep
def firstI (ds : List Int) : Int := firstF ds ds.length 0 0
/-- the place behind the first PDI that ends nothing; -1: none -/
def afterF (ds : List Int) : Nat → Nat → Nat → Int
  | 0, _, _ => -1
  | m + 1, i, deep =>
    if opensB (lkn (ith ds i)) = true then afterF ds m (i + 1) (deep + 1)
    else if lkn (ith ds i) = 22 ∧ deep = 0 then (i : Int) + 1
    else if lkn (ith ds i) = 22 then afterF ds m (i + 1) (deep - 1)
    else if lkn (ith ds i) = 10 then -1
    else afterF ds m (i + 1) deep
/-- the first place from i on that is no PDI -/
def skipF (ds : List Int) : Nat → Nat → Nat
  | 0, i => i
  | m + 1, i => if lkn (ith ds i) = 22 then skipF ds m (i + 1) else i
/-- a line's base -/
def baseF (want : Int) : Nat → List Int → Int
  | 0, _ => 0
  | f + 1, ds =>
    if want = 1 then 0 else if want = 2 then 1
    else if skipF ds ds.length 0 = ds.length then 0
    else if lkn (ith ds (skipF ds ds.length 0)) = 10 then 0
    else if firstI (ds.drop (skipF ds ds.length 0)) = 13 then
      (if ((skipF ds ds.length 0 : Nat) : Int) < afterF ds (ds.length - skipF ds ds.length 0) (skipF ds ds.length 0) 0 then
        baseF want f (ds.drop (afterF ds (ds.length - skipF ds ds.length 0) (skipF ds ds.length 0) 0).toNat) else 0)
    else if firstI (ds.drop (skipF ds ds.length 0)) ≠ 0 then 1 else 0
def baseI (ds : List Int) (want : Int) : Int := baseF want (ds.length + 1) ds
/-- which sign goes with which PDI -/
def pairsF (ds : List Int) : Nat → Nat → List Nat → List Int → List Int
  | 0, _, _, out => out
  | m + 1, i, opn, out =>
    if opensB (lkn (ith ds i)) = true then pairsF ds m (i + 1) (opn ++ [i]) (out.set i (-1))
    else if lkn (ith ds i) = 10 then pairsF ds m (i + 1) [] (out.set i (-1))
    else if lkn (ith ds i) = 22 ∧ 0 < opn.length then pairsF ds m (i + 1) (opn.take (opn.length - 1)) (((out.set i (-1)).set i (opn.getD (opn.length - 1) 0)).set (opn.getD (opn.length - 1) 0) i)
    else pairsF ds m (i + 1) opn (out.set i (-1))
def pairsI (ds : List Int) : List Int := pairsF ds ds.length 0 [] (List.replicate ds.length 0)
/-- a state on the pile -/
structure LSt where
  level : Nat
  over : Int
  iso : Bool
structure LPile where
  states : List LSt
  opn : Nat
  deep : Nat
  emb : Nat
def LPile.top (p : LPile) : LSt := p.states.getLastD ⟨0, -1, false⟩
def LPile.said (p : LPile) (d : Int) : Int := if p.top.over ≠ -1 then p.top.over else d
def LPile.next (p : LPile) (odd : Bool) : Nat := if odd then (p.top.level + 1) / 2 * 2 + 1 else (p.top.level + 2) / 2 * 2
def LPile.room (p : LPile) (odd : Bool) : Bool := decide (p.next odd ≤ 125) && decide (p.deep = 0) && decide (p.emb = 0)
def LPile.lay (p : LPile) (odd : Bool) (over : Int) (iso : Bool) : LPile := if p.room odd = true then { p with states := p.states ++ [⟨p.next odd, over, iso⟩] } else p
def LPile.pop (p : LPile) : LPile := { p with states := p.states.take (p.states.length - 1) }
/-- pops until the top is an isolate, n times at most -/
def LPile.popTo : Nat → LPile → LPile
  | 0, p => p
  | n + 1, p => if p.top.iso = true then p else popTo n p.pop
def LPile.close (p : LPile) : LPile :=
  if 0 < p.deep then { p with deep := p.deep - 1 }
  else if 0 < p.opn then { ((LPile.popTo p.states.length { p with emb := 0 }).pop) with opn := p.opn - 1 }
  else p
def LPile.fin (p : LPile) : LPile :=
  if 0 < p.deep then p
  else if 0 < p.emb then { p with emb := p.emb - 1 }
  else if 1 < p.states.length ∧ p.top.iso = false then p.pop
  else p
def LPile.embed (p : LPile) (d : Int) : LPile :=
  let odd := decide (d = 15) || decide (d = 17)
  let over : Int := if d = 16 then 0 else if d = 17 then 1 else -1
  if p.room odd = true then p.lay odd over false else if p.deep = 0 then { p with emb := p.emb + 1 } else p
/-- one place: the pile behind it, its level, its class -/
def LPile.step (p : LPile) (base : Nat) (ds : List Int) (i : Nat) : LPile × Nat × Int :=
  let d := lkn (ith ds i)
  if 14 ≤ d ∧ d ≤ 17 then (p.embed d, p.top.level, 9)
  else if 19 ≤ d ∧ d ≤ 21 then
    let odd := if d = 21 then decide (firstI (ds.drop (i + 1)) = 1) || decide (firstI (ds.drop (i + 1)) = 2) else decide (d = 20)
    (if p.room odd = true then { p.lay odd (-1) true with opn := p.opn + 1 } else { p with deep := p.deep + 1 }, p.top.level, p.said d)
  else if d = 22 then (p.close, p.close.top.level, p.close.said d)
  else if d = 18 then (p.fin, p.fin.top.level, 9)
  else if d = 9 then (p, p.top.level, 9)
  else if d = 10 then (⟨[⟨base, -1, false⟩], 0, 0, 0⟩, base, 10)
  else (p, p.top.level, p.said d)
def levF (base : Nat) (ds : List Int) : Nat → Nat → LPile → List Nat → List Int → List Nat × List Int
  | 0, _, _, ls, ks => (ls, ks)
  | m + 1, i, p, ls, ks => levF base ds m (i + 1) (p.step base ds i).1 (ls ++ [(p.step base ds i).2.1]) (ks ++ [(p.step base ds i).2.2])
def levI (ds : List Int) (base : Nat) : List Nat × List Int := levF (min base 125) ds ds.length 0 ⟨[⟨min base 125, -1, false⟩], 0, 0, 0⟩ [] []
/-- which places hang together: the runs so far, which run a PDI goes on, the run at hand, the last place -/
structure RSt where
  out : List (List Nat)
  goes : List (Nat × Nat)
  now : Int
  last : Int
def RSt.find (s : RSt) (i : Nat) : Option Nat := (s.goes.find? (fun x => x.1 == i)).map (·.2)
def RSt.at (s : RSt) (ps : List Int) (i : Nat) : Option Nat :=
  match s.find i with
  | none => none
  | some k => if (((s.out.getD k []).getLastD 0 : Nat) : Int) ≠ ith ps i then none else some k
def RSt.step (s : RSt) (ds ls ps : List Int) (i : Nat) : RSt :=
  let d := lkn (ith ds i)
  if leftB d = true then s
  else
    let fresh : Bool := decide (s.now < 0) || decide (s.last < 0) || decide (ith ls s.last.toNat ≠ ith ls i)
    let k : Nat := if fresh = true then (s.at ps i).getD s.out.length else s.now.toNat
    let out1 : List (List Nat) := if fresh = true ∧ (s.at ps i).isNone = true then s.out ++ [[]] else s.out
    { out := out1.set k (out1.getD k [] ++ [i]),
      goes := if opensB d = true ∧ 0 ≤ ith ps i then ((ith ps i).toNat, k) :: s.goes else s.goes,
      now := k,
      last := if d = 10 then -1 else i }
def runsF (ds ls ps : List Int) : Nat → Nat → RSt → RSt
  | 0, _, s => s
  | m + 1, i, s => runsF ds ls ps m (i + 1) (s.step ds ls ps i)
def runsI (ds ls : List Int) : List (List Nat) :=
  let n := min ds.length ls.length
  (runsF (ds.take n) ls (pairsI (ds.take n)) n 0 ⟨[], [], -1, -1⟩).out
end
section

/-- the direction ahead of a run: the nearest place ahead that is not left out, in its paragraph -/
def aheadL (ds : List Int) (ls : List Nat) (base : Nat) : Nat → Nat
  | 0 => base
  | i + 1 => if lkn (ith ds i) = 10 then base else if leftB (lkn (ith ds i)) = true then aheadL ds ls base i else ls.getD i 0
def behindL (ds : List Int) (ls : List Nat) (base : Nat) : Nat → Nat → Nat
  | 0, _ => base
  | m + 1, i => if leftB (lkn (ith ds i)) = true then behindL ds ls base m (i + 1) else ls.getD i 0
def sidesI (ds : List Int) (ls : List Nat) (base : Nat) (run : List Nat) : Int × Int :=
  let n := min ds.length ls.length
  let ps := run.filter (fun p => decide (p < n))
  if ps = [] then (((base % 2 : Nat) : Int), ((base % 2 : Nat) : Int))
  else
    let a := ps.getD 0 0
    let b := ps.getLastD 0
    let behind := if (opensB (lkn (ith ds b)) = false ∨ 0 ≤ ith (pairsI (ds.take n)) b) ∧ lkn (ith ds b) ≠ 10 then behindL ds ls base (n - (b + 1)) (b + 1) else base
    (((max (ls.getD a 0) (aheadL ds ls base a) % 2 : Nat) : Int), ((max (ls.getD b 0) behind % 2 : Nat) : Int))
/-- the pairs by rising places -/
def insP (p : Nat × Nat) : List (Nat × Nat) → List (Nat × Nat)
  | [] => [p]
  | q :: t => if p.1 < q.1 then p :: q :: t else q :: insP p t
def sortP (l : List (Nat × Nat)) : List (Nat × Nat) := l.foldl (fun s p => insP p s) []
/-- what pair.Resolve answers -/
def resI (rs ks : List Int) (level sos eos : Int) : List Int :=
  let n := min rs.length ks.length
  resolveF rs ks level sos eos (sortP (brkF (rs.take n) (alF n 0 (ks.take n)) n 0 [] []))
def upI (x : Nat) (k : Int) : Nat := if k = 3 ∨ k = 6 then 2 - x % 2 else if (k = 1 ∧ x % 2 = 0) ∨ (k = 0 ∧ x % 2 = 1) then 1 else 0
/-- a run's places get their levels -/
def layRun (x : Nat) (own : List Int) : List Nat → Nat → List Nat → List Nat
  | [], _, out => out
  | p :: ps, i, out => layRun x own ps (i + 1) (out.set p (x + upI x (ith own i)))
def runOut (cs ds : List Int) (ls : List Nat) (ks : List Int) (base : Nat) (run : List Nat) (out : List Nat) : List Nat :=
  let x := ls.getD (run.getD 0 0) 0
  let s := sidesI ds ls base run
  layRun x (resI (run.map (ith cs)) (weakF (run.map (ith ks)) s.1) x s.1 s.2) run 0 out
/-- what is left out goes with what stands ahead; a paragraph's end has the base -/
def tidyF (ds : List Int) (base : Nat) : Nat → Nat → Nat → List Nat → List Nat
  | 0, _, _, out => out
  | m + 1, i, ahead, out =>
    if leftB (ith ds i) = true then tidyF ds base m (i + 1) ahead (out.set i ahead)
    else if ith ds i = 10 then tidyF ds base m (i + 1) base (out.set i base)
    else tidyF ds base m (i + 1) (out.getD i 0) out
def paraI (cs ds : List Int) (base : Nat) : List Nat :=
  let lk := levI ds base
  tidyF ds base ds.length 0 base ((runsI ds (lk.1.map Int.ofNat)).foldl (fun out run => runOut cs ds lk.1 lk.2 base run out) (List.replicate cs.length 0))
/-- a paragraph's length: up to and with its end -/
def paraLen (ds : List Int) : Nat := match ds.findIdx? (fun d => d == 10) with
  | none => ds.length
  | some i => i + 1
def linesF (base : Nat) : Nat → List Int → List Nat → List Nat
  | 0, _, out => out
  | f + 1, cs, out =>
    if cs = [] then out
    else linesF base f (cs.drop (paraLen (cs.map dirI))) (out ++ paraI (cs.take (paraLen (cs.map dirI))) ((cs.take (paraLen (cs.map dirI))).map dirI) base)
/-- what visual.Levels answers: the levels, the base -/
def visualI (cs : List Int) (want : Int) : List Nat × Int :=
  (linesF (baseI (cs.map dirI) want).toNat cs.length cs [], baseI (cs.map dirI) want)
end
section
set_option linter.unusedVariables false
set_option linter.unusedSimpArgs false

def LPile.last (P : LPile) (i : Nat) : LSt := P.states.getD i ⟨0, -1, false⟩
/-- What holds of a pile behind i places. -/
structure LPile.Ok (P : LPile) (i : Nat) : Prop where
  ne : 0 < P.states.length
  bot : (P.last 0).iso = false
  cnt : P.states.countP (·.iso) = P.opn
  lev : ∀ s ∈ P.states, s.level ≤ 125 ∧ -1 ≤ s.over ∧ s.over ≤ 1
  deep : P.deep ≤ i
  emb : P.emb ≤ i
  len : P.states.length ≤ i + 1
  opn : P.opn ≤ i

theorem LPile.top_at (P : LPile) (h : 0 < P.states.length) : P.top = P.last (P.states.length - 1) := by
  unfold LPile.top LPile.last
  rw [List.getLastD_eq_getLast?, List.getLast?_eq_getElem?, List.getD_eq_getElem?_getD]
theorem LPile.top_mem (P : LPile) (h : 0 < P.states.length) : P.top ∈ P.states := by
  rw [P.top_at h, LPile.last, List.getD_eq_getElem?_getD, List.getElem?_eq_getElem (by omega)]
  exact List.getElem_mem _
theorem LPile.Ok.top {P : LPile} {i : Nat} (h : P.Ok i) : P.top.level ≤ 125 ∧ -1 ≤ P.top.over ∧ P.top.over ≤ 1 := h.lev _ (P.top_mem h.ne)
theorem LPile.Ok.mono {P : LPile} {i j : Nat} (h : P.Ok i) (hj : i ≤ j) : P.Ok j := ⟨h.ne, h.bot, h.cnt, h.lev, by have := h.deep; omega, by have := h.emb; omega, by have := h.len; omega, by have := h.opn; omega⟩
/-- a top is split off -/
theorem LPile.split (P : LPile) (h : 0 < P.states.length) : P.states = P.states.take (P.states.length - 1) ++ [P.top] := by
  rw [P.top_at h, LPile.last, List.getD_eq_getElem?_getD, List.getElem?_eq_getElem (by omega)]
  have := List.take_succ_eq_append_getElem (l := P.states) (i := P.states.length - 1) (by omega)
  rw [show P.states.length - 1 + 1 = P.states.length by omega, List.take_length] at this
  exact this
theorem LPile.pop_len (P : LPile) : P.pop.states.length = P.states.length - 1 := by
  unfold LPile.pop; simp
theorem LPile.pop_cnt (P : LPile) (h : 0 < P.states.length) : P.states.countP (·.iso) = P.pop.states.countP (·.iso) + (if P.top.iso = true then 1 else 0) := by
  conv => lhs; rw [P.split h]
  rw [List.countP_append]
  unfold LPile.pop
  congr 1
  by_cases ht : P.top.iso = true
  · rw [if_pos ht]; simp [List.countP_cons, ht]
  · rw [if_neg ht]; simp [List.countP_cons, ht]
theorem LPile.pop_last (P : LPile) (k : Nat) (h : k < P.states.length - 1) : P.pop.last k = P.last k := by
  unfold LPile.pop LPile.last
  rw [List.getD_eq_getElem?_getD, List.getD_eq_getElem?_getD, List.getElem?_take, if_pos h]
theorem LPile.pop_mem (P : LPile) {s : LSt} (h : s ∈ P.pop.states) : s ∈ P.states := List.mem_of_mem_take h
/-- a pile with an isolate, and a bottom that is none, has two states at least -/
theorem LPile.two {P : LPile} (ne : 0 < P.states.length) (bot : (P.last 0).iso = false) (c : 0 < P.states.countP (·.iso)) : 1 < P.states.length := by
  rcases Nat.lt_or_ge 1 P.states.length with h | h
  · exact h
  · have h1 : P.states.length = 1 := by omega
    obtain ⟨s, hs⟩ := List.length_eq_one_iff.1 h1
    unfold LPile.last at bot
    rw [hs] at bot c
    simp [List.countP_cons] at bot c
    rw [bot] at c
    cases c
theorem LPile.Ok.step_pop {P : LPile} {i : Nat} (h : P.Ok i) (h1 : 1 < P.states.length) (ht : P.top.iso = false) : P.pop.Ok i := by
  have hl := P.pop_len
  refine ⟨by omega, by rw [P.pop_last 0 (by omega)]; exact h.bot, ?_, fun s hs => h.lev s (P.pop_mem hs), h.deep, h.emb, by have := h.len; omega, h.opn⟩
  have := P.pop_cnt h.ne
  rw [ht, if_neg (by decide), h.cnt] at this
  exact this.symm
/-- popping to an isolate: the pile, its own counts aside -/
theorem LPile.popTo_ok : ∀ (n : Nat) (P : LPile), P.states.length = n → 0 < n → (P.last 0).iso = false → 0 < P.states.countP (·.iso) →
    1 < (LPile.popTo n P).states.length ∧ (LPile.popTo n P).top.iso = true ∧ ((LPile.popTo n P).last 0).iso = false ∧ (LPile.popTo n P).states.countP (·.iso) = P.states.countP (·.iso) ∧
      (∀ s ∈ (LPile.popTo n P).states, s ∈ P.states) ∧ (LPile.popTo n P).states.length ≤ n ∧ (LPile.popTo n P).opn = P.opn ∧ (LPile.popTo n P).deep = P.deep ∧ (LPile.popTo n P).emb = P.emb
  | 0, _, _, h, _, _ => absurd h (by omega)
  | n + 1, P, hn, _, bot, c => by
    rw [LPile.popTo]
    by_cases ht : P.top.iso = true
    · rw [if_pos ht]
      exact ⟨LPile.two (by omega) bot c, ht, bot, rfl, fun _ h => h, by omega, rfl, rfl, rfl⟩
    · rw [if_neg ht]
      have h1 := LPile.two (by omega) bot c
      have hl := P.pop_len
      have hc := P.pop_cnt (by omega)
      rw [if_neg ht, Nat.add_zero] at hc
      obtain ⟨a, b, d, e, f, g, k⟩ := LPile.popTo_ok n P.pop (by omega) (by omega) (by rw [P.pop_last 0 (by omega)]; exact bot) (by omega)
      exact ⟨a, b, d, by omega, fun s hs => P.pop_mem (f s hs), by omega, k⟩
theorem LPile.Ok.close {P : LPile} {i : Nat} (h : P.Ok i) : P.close.Ok (i + 1) := by
  unfold LPile.close
  by_cases hd : 0 < P.deep
  · rw [if_pos hd]
    exact ⟨h.ne, h.bot, h.cnt, h.lev, by have := h.deep; simp only; omega, by have := h.emb; simp only; omega, by have := h.len; simp only; omega, by have := h.opn; simp only; omega⟩
  · rw [if_neg hd]
    by_cases ho : 0 < P.opn
    · rw [if_pos ho]
      obtain ⟨a, b, d, e, f, g, k1, k2, k3⟩ := LPile.popTo_ok P.states.length { P with emb := 0 } rfl h.ne h.bot (by have := h.cnt; simp only; omega)
      generalize LPile.popTo P.states.length { P with emb := 0 } = Q at a b d e f g k1 k2 k3 ⊢
      have hl := Q.pop_len
      have hc := Q.pop_cnt (by omega)
      rw [if_pos b] at hc
      simp only at e k1 k2 k3
      have hcnt := h.cnt
      refine ⟨by simp only; omega, ?_, by simp only; omega, fun s hs => h.lev s (f s (Q.pop_mem hs)), ?_, ?_, ?_, by have := h.opn; simp only; omega⟩
      · exact (congrArg LSt.iso (Q.pop_last 0 (by omega))).trans d
      · have := h.deep; show Q.deep ≤ i + 1; omega
      · show Q.emb ≤ i + 1; omega
      · have := h.len; show Q.pop.states.length ≤ i + 1 + 1; omega
    · rw [if_neg ho]
      exact h.mono (by omega)
theorem LPile.Ok.fin {P : LPile} {i : Nat} (h : P.Ok i) : P.fin.Ok (i + 1) := by
  unfold LPile.fin
  by_cases hd : 0 < P.deep
  · rw [if_pos hd]; exact h.mono (by omega)
  · rw [if_neg hd]
    by_cases he : 0 < P.emb
    · rw [if_pos he]
      exact ⟨h.ne, h.bot, h.cnt, h.lev, by have := h.deep; simp only; omega, by have := h.emb; simp only; omega, by have := h.len; simp only; omega, by have := h.opn; simp only; omega⟩
    · rw [if_neg he]
      by_cases h1 : 1 < P.states.length ∧ P.top.iso = false
      · rw [if_pos h1]; exact (h.step_pop h1.1 h1.2).mono (by omega)
      · rw [if_neg h1]; exact h.mono (by omega)
theorem LPile.Ok.laid {P : LPile} {i : Nat} (h : P.Ok i) (odd : Bool) (over : Int) (iso : Bool) (hr : P.room odd = true) (ho1 : -1 ≤ over) (ho2 : over ≤ 1) :
    ({ states := P.states ++ [⟨P.next odd, over, iso⟩], opn := P.opn + (if iso = true then 1 else 0), deep := P.deep, emb := P.emb } : LPile).Ok (i + 1) := by
  have hn : P.next odd ≤ 125 := by
    unfold LPile.room at hr
    simp only [Bool.and_eq_true, decide_eq_true_eq] at hr
    exact hr.1.1
  refine ⟨by simp, ?_, ?_, ?_, by have := h.deep; simp only; omega, by have := h.emb; simp only; omega, by have := h.len; simp only [List.length_append, List.length_singleton]; omega, ?_⟩
  · have := h.ne
    have hb := h.bot
    unfold LPile.last at hb ⊢
    rw [List.getD_eq_getElem?_getD, List.getElem?_append_left this, ← List.getD_eq_getElem?_getD]
    exact hb
  · simp only [List.countP_append, h.cnt]
    congr 1
    cases iso <;> rfl
  · intro s hs
    rw [List.mem_append, List.mem_singleton] at hs
    rcases hs with hs | rfl
    · exact h.lev s hs
    · exact ⟨hn, ho1, ho2⟩
  · have := h.opn
    simp only
    split <;> omega
theorem LPile.Ok.lay0 {P : LPile} {i : Nat} (h : P.Ok i) (odd : Bool) (over : Int) (ho1 : -1 ≤ over) (ho2 : over ≤ 1) : (P.lay odd over false).Ok (i + 1) := by
  unfold LPile.lay
  by_cases hr : P.room odd = true
  · rw [if_pos hr]
    exact h.laid odd over false hr ho1 ho2
  · rw [if_neg hr]; exact h.mono (by omega)
theorem LPile.Ok.embed {P : LPile} {i : Nat} (h : P.Ok i) (d : Int) : (P.embed d).Ok (i + 1) := by
  unfold LPile.embed
  simp only
  split
  · refine h.lay0 _ _ ?_ ?_
    · split
      · omega
      · split <;> omega
    · split
      · omega
      · split <;> omega
  · split
    · exact ⟨h.ne, h.bot, h.cnt, h.lev, by have := h.deep; simp only; omega, by have := h.emb; simp only; omega, by have := h.len; simp only; omega, by have := h.opn; simp only; omega⟩
    · exact h.mono (by omega)
theorem LPile.Ok.isolate {P : LPile} {i : Nat} (h : P.Ok i) (odd : Bool) : (if P.room odd = true then { P.lay odd (-1) true with opn := P.opn + 1 } else { P with deep := P.deep + 1 } : LPile).Ok (i + 1) := by
  by_cases hr : P.room odd = true
  · rw [if_pos hr]
    have := h.laid odd (-1) true hr (by omega) (by omega)
    unfold LPile.lay
    rw [if_pos hr]
    exact this
  · rw [if_neg hr]
    exact ⟨h.ne, h.bot, h.cnt, h.lev, by have := h.deep; simp only; omega, by have := h.emb; simp only; omega, by have := h.len; simp only; omega, by have := h.opn; simp only; omega⟩
theorem LPile.begin_ok (base i : Nat) (hb : base ≤ 125) : (⟨[⟨base, -1, false⟩], 0, 0, 0⟩ : LPile).Ok i :=
  ⟨by simp, rfl, rfl, fun s hs => by simp at hs; subst hs; exact ⟨hb, by simp, by simp⟩, Nat.zero_le _, Nat.zero_le _, by simp, Nat.zero_le _⟩
theorem LPile.Ok.step {P : LPile} {i : Nat} (h : P.Ok i) (base : Nat) (hb : base ≤ 125) (ds : List Int) (j : Nat) : (P.step base ds j).1.Ok (i + 1) := by
  unfold LPile.step
  simp only
  split
  · exact h.embed _
  split
  · exact h.isolate _
  split
  · exact h.close
  split
  · exact h.fin
  split
  · exact h.mono (by omega)
  split
  · exact LPile.begin_ok base _ hb
  · exact h.mono (by omega)
end
section
set_option linter.unusedVariables false
set_option linter.unusedSimpArgs false

theorem LPile.Ok.said {P : LPile} {i : Nat} (h : P.Ok i) (d : Int) (h0 : 0 ≤ d) (h1 : d ≤ 22) : 0 ≤ P.said d ∧ P.said d ≤ 22 := by
  have := h.top
  unfold LPile.said
  split <;> omega
theorem LPile.Ok.step_bd {P : LPile} {i : Nat} (h : P.Ok i) (base : Nat) (hb : base ≤ 125) (ds : List Int) (j : Nat) : (P.step base ds j).2.1 ≤ 125 ∧ 0 ≤ (P.step base ds j).2.2 ∧ (P.step base ds j).2.2 ≤ 22 := by
  have hk := lkn_bd (ith ds j)
  have t := h.top.1
  have s := h.said (lkn (ith ds j)) hk.1 hk.2
  unfold LPile.step
  simp only
  split
  · exact ⟨t, by simp, by simp⟩
  split
  · exact ⟨t, s⟩
  split
  · exact ⟨h.close.top.1, h.close.said _ hk.1 hk.2⟩
  split
  · exact ⟨h.fin.top.1, by simp, by simp⟩
  split
  · exact ⟨t, by simp, by simp⟩
  split
  · exact ⟨hb, by simp, by simp⟩
  · exact ⟨t, s⟩
theorem levF_ok (base : Nat) (hb : base ≤ 125) (ds : List Int) : ∀ (m i : Nat) (P : LPile) (ls : List Nat) (ks : List Int), P.Ok i → ls.length = i → ks.length = i → (∀ l ∈ ls, l ≤ 125) → (∀ k ∈ ks, 0 ≤ k ∧ k ≤ 22) →
    (levF base ds m i P ls ks).1.length = i + m ∧ (levF base ds m i P ls ks).2.length = i + m ∧ (∀ l ∈ (levF base ds m i P ls ks).1, l ≤ 125) ∧ (∀ k ∈ (levF base ds m i P ls ks).2, 0 ≤ k ∧ k ≤ 22)
  | 0, i, P, ls, ks, h, h1, h2, h3, h4 => ⟨h1, h2, h3, h4⟩
  | m + 1, i, P, ls, ks, h, h1, h2, h3, h4 => by
    rw [levF, show i + (m + 1) = (i + 1) + m by omega]
    have hs := h.step_bd base hb ds i
    refine levF_ok base hb ds m (i + 1) _ _ _ (h.step base hb ds i) (by simp [h1]) (by simp [h2]) (fun l hl => ?_) fun k hk => ?_
    · rw [List.mem_append, List.mem_singleton] at hl
      rcases hl with hl | rfl
      · exact h3 l hl
      · exact hs.1
    · rw [List.mem_append, List.mem_singleton] at hk
      rcases hk with hk | rfl
      · exact h4 k hk
      · exact hs.2
theorem levI_ok (ds : List Int) (base : Nat) : (levI ds base).1.length = ds.length ∧ (levI ds base).2.length = ds.length ∧ (∀ l ∈ (levI ds base).1, l ≤ 125) ∧ (∀ k ∈ (levI ds base).2, 0 ≤ k ∧ k ≤ 22) := by
  have := levF_ok (min base 125) (by omega) ds ds.length 0 ⟨[⟨min base 125, -1, false⟩], 0, 0, 0⟩ [] [] (LPile.begin_ok _ 0 (by omega)) rfl rfl (fun l hl => by simp at hl) (fun k hk => by simp at hk)
  rw [Nat.zero_add] at this
  exact this
end
section
set_option linter.unusedVariables false
set_option linter.unusedSimpArgs false

structure RSt.Ok (s : RSt) (i : Nat) : Prop where
  run : ∀ k, k < s.out.length → s.out.getD k [] ≠ [] ∧ (∀ p ∈ s.out.getD k [], p < i) ∧ (s.out.getD k []).length ≤ i
  now0 : -1 ≤ s.now
  now1 : s.now < s.out.length
  last0 : -1 ≤ s.last
  last1 : s.last < i
  goes : ∀ x ∈ s.goes, x.2 < s.out.length
  len : s.out.length ≤ i
theorem RSt.start_ok : RSt.Ok ⟨[], [], -1, -1⟩ 0 :=
  ⟨fun k hk => absurd hk (by simp), by simp, by simp, by simp, by simp, fun x hx => by simp at hx, by simp⟩
theorem RSt.Ok.find_lt {s : RSt} {i j k : Nat} (h : s.Ok i) (hf : s.find j = some k) : k < s.out.length := by
  unfold RSt.find at hf
  cases hx : s.goes.find? (fun x => x.1 == j) with
  | none => rw [hx] at hf; cases hf
  | some y =>
    rw [hx] at hf
    cases hf
    exact h.goes y (List.mem_of_find?_eq_some hx)
theorem RSt.Ok.at_lt {s : RSt} {i j k : Nat} {ps : List Int} (h : s.Ok i) (hf : s.at ps j = some k) : k < s.out.length := by
  unfold RSt.at at hf
  cases hx : s.find j with
  | none => rw [hx] at hf; cases hf
  | some y =>
    rw [hx] at hf
    simp only at hf
    split at hf
    · cases hf
    · cases hf; exact h.find_lt hx
/-- a place is put into the run k: one that is there, or the next new one -/
def RSt.put (s : RSt) (k : Nat) (i : Nat) (last : Int) (goes : List (Nat × Nat)) : RSt :=
  { out := if k < s.out.length then s.out.set k (s.out.getD k [] ++ [i]) else s.out ++ [[i]], goes := goes, now := k, last := last }
theorem RSt.Ok.put {s : RSt} {i : Nat} (h : s.Ok i) (k : Nat) (hk : k ≤ s.out.length) (last : Int) (hl0 : -1 ≤ last) (hl1 : last < (i : Int) + 1) (g : List (Nat × Nat)) (hg : ∀ x ∈ g, x ∈ s.goes ∨ x.2 = k) :
    (s.put k i last g).Ok (i + 1) := by
  unfold RSt.put
  by_cases hlt : k < s.out.length
  · rw [if_pos hlt]
    have gd : ∀ j, (s.out.set k (s.out.getD k [] ++ [i])).getD j [] = if k = j then s.out.getD k [] ++ [i] else s.out.getD j [] := fun j => by
      rw [List.getD_eq_getElem?_getD, List.getElem?_set, List.getD_eq_getElem?_getD]
      by_cases e : k = j
      · subst e; rw [if_pos rfl, if_pos hlt, if_pos rfl]; rfl
      · rw [if_neg e, if_neg e, List.getD_eq_getElem?_getD]
    refine ⟨fun j hj => ?_, by simp only; omega, by simp only [List.length_set]; omega, hl0, by simp only; omega, fun x hx => ?_, by simp only [List.length_set]; have := h.len; omega⟩
    · simp only [List.length_set] at hj
      simp only
      rw [gd j]
      by_cases e : k = j
      · rw [if_pos e]
        have hr := h.run k hlt
        refine ⟨by simp, fun p hp => ?_, by rw [List.length_append, List.length_singleton]; omega⟩
        rw [List.mem_append, List.mem_singleton] at hp
        rcases hp with hp | hp
        · have := hr.2.1 p hp; omega
        · omega
      · rw [if_neg e]
        have hr := h.run j hj
        exact ⟨hr.1, fun p hp => by have := hr.2.1 p hp; omega, by omega⟩
    · simp only [List.length_set]
      rcases hg x hx with hx | hx
      · exact h.goes x hx
      · omega
  · rw [if_neg hlt]
    have hke : k = s.out.length := by omega
    refine ⟨fun j hj => ?_, by simp only; omega, by simp only [List.length_append, List.length_singleton]; omega, hl0, by simp only; omega, fun x hx => ?_, by simp only [List.length_append, List.length_singleton]; have := h.len; omega⟩
    · simp only [List.length_append, List.length_singleton] at hj
      simp only
      rcases Nat.lt_or_ge j s.out.length with h' | h'
      · rw [List.getD_eq_getElem?_getD, List.getElem?_append_left h', ← List.getD_eq_getElem?_getD]
        have hr := h.run j h'
        exact ⟨hr.1, fun p hp => by have := hr.2.1 p hp; omega, by omega⟩
      · have hje : j = s.out.length := by omega
        rw [List.getD_eq_getElem?_getD, hje, List.getElem?_append_right (Nat.le_refl _), Nat.sub_self]
        exact ⟨by simp, fun p hp => by simp at hp; omega, by simp⟩
    · simp only [List.length_append, List.length_singleton]
      rcases hg x hx with hx | hx
      · have := h.goes x hx; omega
      · omega
/-- which run takes the place -/
def RSt.pick (s : RSt) (ls ps : List Int) (i : Nat) : Nat :=
  if s.now < 0 ∨ s.last < 0 ∨ ith ls s.last.toNat ≠ ith ls i then (s.at ps i).getD s.out.length else s.now.toNat
theorem RSt.Ok.pick_le {s : RSt} {i : Nat} (h : s.Ok i) (ls ps : List Int) : s.pick ls ps i ≤ s.out.length := by
  unfold RSt.pick
  split
  · cases hx : s.at ps i with
    | none => simp
    | some k => have := h.at_lt hx; simp; omega
  · have := h.now1; have := h.now0; omega
def RSt.gone (s : RSt) (ds ps : List Int) (i k : Nat) : List (Nat × Nat) := if opensB (lkn (ith ds i)) = true ∧ 0 ≤ ith ps i then ((ith ps i).toNat, k) :: s.goes else s.goes
theorem RSt.Ok.step_put {s : RSt} {i : Nat} (h : s.Ok i) (ds ls ps : List Int) :
    s.step ds ls ps i = if leftB (lkn (ith ds i)) = true then s else s.put (s.pick ls ps i) i (if lkn (ith ds i) = 10 then -1 else i) (s.gone ds ps i (s.pick ls ps i)) := by
  unfold RSt.step
  simp only
  by_cases hb : leftB (lkn (ith ds i)) = true
  · rw [if_pos hb, if_pos hb]
  · rw [if_neg hb, if_neg hb]
    unfold RSt.put RSt.pick RSt.gone
    by_cases hf : s.now < 0 ∨ s.last < 0 ∨ ith ls s.last.toNat ≠ ith ls i
    · have hfb : (decide (s.now < 0) || decide (s.last < 0) || decide (ith ls s.last.toNat ≠ ith ls i)) = true := by
        simp only [Bool.or_eq_true, decide_eq_true_eq]
        rcases hf with h1 | h1 | h1
        · exact .inl (.inl h1)
        · exact .inl (.inr h1)
        · exact .inr h1
      rw [hfb, if_pos hf]
      simp only [if_true, true_and]
      cases hx : s.at ps i with
      | none =>
        simp only [Option.isNone_none, Option.getD_none, if_true]
        rw [if_neg (Nat.lt_irrefl _)]
        congr 1
        rw [List.getD_eq_getElem?_getD, List.getElem?_append_right (Nat.le_refl _), Nat.sub_self]
        rw [List.set_append_right _ _ (Nat.le_refl _), Nat.sub_self]
        rfl
      | some k =>
        have hk := h.at_lt hx
        simp only [Option.isNone_some, Option.getD_some]
        rw [if_neg (by decide), if_pos hk]
    · have hfb : (decide (s.now < 0) || decide (s.last < 0) || decide (ith ls s.last.toNat ≠ ith ls i)) = false := by
        rw [Bool.eq_false_iff]
        intro e
        simp only [Bool.or_eq_true, decide_eq_true_eq] at e
        exact hf (by
          rcases e with (e | e) | e
          · exact .inl e
          · exact .inr (.inl e)
          · exact .inr (.inr e))
      rw [hfb, if_neg hf]
      have h1 := h.now1
      have h2 : ¬ s.now < 0 := fun e => hf (.inl e)
      have h3 : s.now.toNat < s.out.length := by have := h.now0; omega
      simp only [Bool.false_eq_true, if_false, false_and]
      rw [if_pos h3]
theorem RSt.Ok.step {s : RSt} {i : Nat} (h : s.Ok i) (ds ls ps : List Int) : (s.step ds ls ps i).Ok (i + 1) := by
  rw [h.step_put ds ls ps]
  by_cases hb : leftB (lkn (ith ds i)) = true
  · rw [if_pos hb]
    refine ⟨fun k hk => ?_, h.now0, h.now1, h.last0, by have := h.last1; omega, h.goes, by have := h.len; omega⟩
    have hr := h.run k hk
    exact ⟨hr.1, fun p hp => by have := hr.2.1 p hp; omega, by omega⟩
  · rw [if_neg hb]
    refine h.put _ (h.pick_le ls ps) _ (by split <;> omega) (by split <;> omega) _ fun x hx => ?_
    unfold RSt.gone at hx
    split at hx
    · rw [List.mem_cons] at hx
      rcases hx with rfl | hx
      · exact .inr rfl
      · exact .inl hx
    · exact .inl hx
theorem runsF_ok (ds ls ps : List Int) : ∀ (m i : Nat) (s : RSt), s.Ok i → (runsF ds ls ps m i s).Ok (i + m)
  | 0, i, s, h => h
  | m + 1, i, s, h => by
    rw [runsF, show i + (m + 1) = (i + 1) + m by omega]
    exact runsF_ok ds ls ps m (i + 1) _ (h.step ds ls ps)
theorem runsI_ok (ds ls : List Int) : ∀ run ∈ runsI ds ls, run ≠ [] ∧ (∀ p ∈ run, p < min ds.length ls.length) ∧ run.length ≤ min ds.length ls.length := by
  intro run hrun
  have h := runsF_ok (ds.take (min ds.length ls.length)) ls (pairsI (ds.take (min ds.length ls.length))) (min ds.length ls.length) 0 ⟨[], [], -1, -1⟩ RSt.start_ok
  rw [Nat.zero_add] at h
  unfold runsI at hrun
  obtain ⟨k, hk, he⟩ := List.getElem_of_mem hrun
  have := h.run k hk
  rw [List.getD_eq_getElem?_getD, List.getElem?_eq_getElem hk] at this
  simp only [Option.getD_some] at this
  rw [he] at this
  exact this
/-- the partners lie in the list -/
theorem pairsF_bd (ds : List Int) (n : Nat) : ∀ (m i : Nat) (opn : List Nat) (out : List Int), i + m = n → (∀ p ∈ opn, p < i) → (∀ x ∈ out, -1 ≤ x ∧ x < n ∨ x = 0) → ∀ x ∈ pairsF ds m i opn out, -1 ≤ x ∧ x < n ∨ x = 0
  | 0, i, opn, out, him, ho, h => h
  | m + 1, i, opn, out, him, ho, h => by
    have hset : ∀ (l : List Int) (j : Nat) (v : Int), (∀ x ∈ l, -1 ≤ x ∧ x < n ∨ x = 0) → (-1 ≤ v ∧ v < n) → ∀ x ∈ l.set j v, -1 ≤ x ∧ x < n ∨ x = 0 := fun l j v hl hv x hx => by
      rcases List.mem_or_eq_of_mem_set hx with hx | rfl
      · exact hl x hx
      · exact .inl hv
    have h1 := hset out i (-1) h ⟨by omega, by omega⟩
    rw [pairsF]
    split
    · refine pairsF_bd ds n m (i + 1) _ _ (by omega) (fun p hp => ?_) h1
      rw [List.mem_append, List.mem_singleton] at hp
      rcases hp with hp | rfl
      · have := ho p hp; omega
      · omega
    · split
      · exact pairsF_bd ds n m (i + 1) [] _ (by omega) (fun p hp => by simp at hp) h1
      · split
        · next hc =>
          have hmem : opn.getD (opn.length - 1) 0 ∈ opn := by
            rw [List.getD_eq_getElem?_getD, List.getElem?_eq_getElem (by omega)]; exact List.getElem_mem _
          have := ho _ hmem
          exact pairsF_bd ds n m (i + 1) _ _ (by omega) (fun p hp => by have := ho p (List.mem_of_mem_take hp); omega) (hset _ _ _ (hset _ _ _ h1 ⟨by omega, by omega⟩) ⟨by omega, by omega⟩)
        · exact pairsF_bd ds n m (i + 1) opn _ (by omega) (fun p hp => by have := ho p hp; omega) h1
theorem pairsI_bd (ds : List Int) (j : Nat) : -1 ≤ ith (pairsI ds) j ∧ ith (pairsI ds) j ≤ ds.length := by
  have h := pairsF_bd ds ds.length ds.length 0 [] (List.replicate ds.length 0) (by omega) (fun p hp => by simp at hp) (fun x hx => .inr (List.eq_of_mem_replicate hx))
  unfold ith
  rw [List.getD_eq_getElem?_getD]
  cases hx : (pairsI ds)[j]? with
  | none => simp
  | some x =>
    have := h x (List.mem_of_getElem? hx)
    simp only [Option.getD_some]
    omega
end
section
set_option linter.unusedVariables false
set_option linter.unusedSimpArgs false

theorem findTop_lt : ∀ (st : List (Nat × Int)) (r : Int) (n k : Nat), findTop st r n = some k → k < n ∧ (st.getD k (0, 0)).2 = r
  | st, r, 0, k, h => by simp [findTop] at h
  | st, r, n + 1, k, h => by
    unfold findTop at h
    split at h
    · rename_i h1; cases h; exact ⟨by omega, h1⟩
    · have := findTop_lt st r n k h; exact ⟨by omega, this.2⟩

theorem getD_mem {α : Type} (l : List α) (d : α) (i : Nat) (h : i < l.length) : l.getD i d ∈ l := by
  rw [List.getD_eq_getElem?_getD, List.getElem?_eq_getElem h]
  exact List.getElem_mem h

theorem brkF_mem (rs ks : List Int) : ∀ (m i : Nat) (st : List (Nat × Int)) (out : List (Nat × Nat)), (∀ x ∈ st, x.1 < i) → (∀ p ∈ out, p.1 < p.2 ∧ p.2 < i) →
    ∀ p ∈ brkF rs ks m i st out, p.1 < p.2 ∧ p.2 < i + m
  | 0, i, st, out, _, ho, p, hp => by have := ho p hp; omega
  | m + 1, i, st, out, hs, ho, p, hp => by
    have hs' : ∀ x ∈ st, x.1 < i + 1 := fun x hx => by have := hs x hx; omega
    have ho' : ∀ p ∈ out, p.1 < p.2 ∧ p.2 < i + 1 := fun p hp => by have := ho p hp; omega
    unfold brkF at hp
    split at hp
    · have := brkF_mem rs ks m (i + 1) st out hs' ho' p hp; omega
    · split at hp
      · split at hp
        · have := ho p hp; omega
        · have := brkF_mem rs ks m (i + 1) _ out (fun x hx => by
            rw [List.mem_append, List.mem_singleton] at hx
            rcases hx with hx | hx
            · exact hs' x hx
            · subst hx; show i < i + 1; omega) ho' p hp
          omega
      · split at hp
        · have := brkF_mem rs ks m (i + 1) st out hs' ho' p hp; omega
        · rename_i k hk
          have hkl := (findTop_lt st _ _ k hk).1
          have := brkF_mem rs ks m (i + 1) _ _ (fun x hx => hs' x (List.mem_of_mem_take hx)) (fun q hq => by
            rw [List.mem_append, List.mem_singleton] at hq
            rcases hq with hq | hq
            · exact ho' q hq
            · subst hq; have := hs _ (getD_mem st (0, 0) k hkl); exact ⟨this, by show i < i + 1; omega⟩) p hp
          omega
end
section
set_option linter.unusedVariables false
set_option linter.unusedSimpArgs false

theorem ith_setP (l : List Int) (i j : Nat) (v : Int) (h : i < l.length) : ith (l.set i v) j = if i = j then v else ith l j := by
  unfold ith
  rw [List.getD_eq_getElem?_getD, List.getElem?_set, List.getD_eq_getElem?_getD]
  by_cases e : i = j
  · subst e; simp [h]
  · simp [e]

/-- xs has the length of ys; where ys has a direction xs is as ys is; a neutral place of ys is left or becomes a direction 0 or 1 that D allows -/
structure Turned (D : Int → Prop) (ys xs : List Int) : Prop where
  len : xs.length = ys.length
  keep : ∀ i, i < ys.length → 0 ≤ wayI (ith ys i) → ith xs i = ith ys i
  turn : ∀ i, i < ys.length → wayI (ith ys i) < 0 → ith xs i = ith ys i ∨ D (ith xs i)

theorem Turned.refl (D : Int → Prop) (ys : List Int) : Turned D ys ys := ⟨rfl, fun _ _ _ => rfl, fun _ _ _ => .inl rfl⟩
theorem Turned.set {D : Int → Prop} {ys xs : List Int} (h : Turned D ys xs) (i : Nat) (v : Int) (hi : i < ys.length) (hw : wayI (ith ys i) < 0) (hv : D v) : Turned D ys (xs.set i v) := by
  have hl := h.len
  refine ⟨by rw [List.length_set]; exact hl, fun j hj hwj => ?_, fun j hj hwj => ?_⟩
  · rw [ith_setP _ _ _ _ (by omega), if_neg (fun e => by subst e; omega)]
    exact h.keep j hj hwj
  · rw [ith_setP _ _ _ _ (by omega)]
    split
    · exact .inr hv
    · exact h.turn j hj hwj
/-- a place that is neutral now was neutral -/
theorem Turned.was {D : Int → Prop} {ys xs : List Int} (h : Turned D ys xs) (i : Nat) (hi : i < ys.length) (hw : wayI (ith xs i) < 0) : wayI (ith ys i) < 0 := by
  by_cases hn : 0 ≤ wayI (ith ys i)
  · rw [h.keep i hi hn] at hw; omega
  · omega

theorem spreadF_turned {D : Int → Prop} (rs : List Int) (k : Int) (hk : D k) (ys : List Int) : ∀ (m i : Nat) (xs : List Int), Turned D ys xs → i + m ≤ ys.length → Turned D ys (spreadF rs k m i xs)
  | 0, i, xs, h, _ => h
  | m + 1, i, xs, h, hm => by
    unfold spreadF
    split
    · rename_i hc
      exact spreadF_turned rs k hk ys m (i + 1) _ (h.set i k (by omega) (h.was i (by omega) hc.1) hk) (by omega)
    · exact h
theorem markF_turned {D : Int → Prop} (rs : List Int) (n : Nat) (k : Int) (hk : D k) (ys xs : List Int) (b : Nat) (h : Turned D ys xs) (hn : ys.length = n) (hb : b < n) (hw : wayI (ith ys b) < 0) : Turned D ys (markF rs n k b xs) := by
  unfold markF
  exact spreadF_turned rs k hk ys _ _ _ (h.set b k (by omega) hw hk) (by omega)
theorem decF_val (xs : List Int) (e ahead : Int) : ∀ (m i : Nat) (acc : Int), (acc = -1 ∨ acc = ahead) → decF xs e ahead m i acc = -1 ∨ decF xs e ahead m i acc = e ∨ decF xs e ahead m i acc = ahead
  | 0, _, acc, h => by rcases h with h | h <;> simp [decF, h]
  | m + 1, i, acc, h => by
    unfold decF
    split
    · exact .inr (.inl rfl)
    · split
      · exact decF_val xs e ahead m (i + 1) acc h
      · exact decF_val xs e ahead m (i + 1) ahead (.inr rfl)
theorem aheadF_val (out : List Int) (P : Int → Prop) (hP : ∀ i, i < out.length → 0 ≤ wayI (ith out i) → P (wayI (ith out i))) : ∀ (m i : Nat) (a : Int), i + m ≤ out.length → P a → P (aheadF out m i a)
  | 0, _, a, _, h => h
  | m + 1, i, a, hm, h => by
    unfold aheadF
    split
    · rename_i hc; exact aheadF_val out P hP m (i + 1) _ (by omega) (hP i (by omega) hc)
    · exact aheadF_val out P hP m (i + 1) a (by omega) h
theorem wayI_val (y : Int) : wayI y = -1 ∨ wayI y = 0 ∨ wayI y = 1 := by
  unfold wayI; split
  · exact .inr (.inl rfl)
  · split
    · exact .inr (.inr rfl)
    · exact .inl rfl
/-- D is met by e, and by whatever direction stands in the list and its turned forms -/
theorem resF_turned {D : Int → Prop} (rs : List Int) (n : Nat) (e : Int) (he : D e) (ys : List Int) (hn : ys.length = n) (hD : ∀ i, i < ys.length → 0 ≤ wayI (ith ys i) → D (wayI (ith ys i))) (hw0 : ∀ v, D v → wayI v = v ∧ 0 ≤ v) :
    ∀ (l : List (Nat × Nat)) (at' : Nat) (ahead : Int) (xs : List Int), (∀ p ∈ l, p.1 < p.2 ∧ p.2 < n ∧ wayI (ith ys p.1) < 0 ∧ wayI (ith ys p.2) < 0) → at' ≤ n → D ahead → Turned D ys xs → Turned D ys (resF rs n e l at' ahead xs)
  | [], at', ahead, xs, _, _, _, h => h
  | p :: ps, at', ahead, xs, hl, hat, ha, h => by
    obtain ⟨hp1, hp2, hp3, hp4⟩ := hl p (by simp)
    have hps : ∀ q ∈ ps, q.1 < q.2 ∧ q.2 < n ∧ wayI (ith ys q.1) < 0 ∧ wayI (ith ys q.2) < 0 := fun q hq => hl q (by simp [hq])
    have hDx : ∀ i, i < xs.length → 0 ≤ wayI (ith xs i) → D (wayI (ith xs i)) := fun i hi hwi => by
      have hi' : i < ys.length := by have := h.len; omega
      by_cases hy : 0 ≤ wayI (ith ys i)
      · rw [h.keep i hi' hy]; exact hD i hi' hy
      · rcases h.turn i hi' (by omega) with h1 | h1
        · rw [h1] at hwi; omega
        · rw [(hw0 _ h1).1]; exact h1
    have hah := aheadF_val xs D hDx (p.1 - at') at' ahead (by have := h.len; omega) ha
    unfold resF
    generalize hA : aheadF xs (p.1 - at') at' ahead = A at *
    split
    · exact resF_turned rs n e he ys hn hD hw0 ps _ A xs hps (by omega) hah h
    · rename_i hneg
      have hk : D (decI xs p.1 p.2 e A) := by
        rcases decF_val xs e A (p.2 - (p.1 + 1)) (p.1 + 1) (-1) (.inl rfl) with h1 | h1 | h1
        · exact absurd (show decI xs p.1 p.2 e A < 0 by unfold decI; omega) hneg
        · unfold decI; rw [h1]; exact he
        · unfold decI; rw [h1]; exact hah
      exact resF_turned rs n e he ys hn hD hw0 ps _ A _ hps (by omega) hah (markF_turned rs n _ hk ys _ p.2 (markF_turned rs n _ hk ys xs p.1 h hn (by omega) hp3) hn hp2 hp4)
theorem fillF_turned {D : Int → Prop} (k : Int) (hk : D k) (ys : List Int) : ∀ (m i : Nat) (xs : List Int), Turned D ys xs → i + m ≤ ys.length → (∀ j, i ≤ j → j < i + m → wayI (ith ys j) < 0) → Turned D ys (fillF k m i xs)
  | 0, i, xs, h, _, _ => h
  | m + 1, i, xs, h, hm, hw => fillF_turned k hk ys m (i + 1) _ (h.set i k (by omega) (hw i (by omega) (by omega)) hk) (by omega) (fun j h1 h2 => hw j (by omega) (by omega))
theorem fillF_ith (k : Int) : ∀ (m i : Nat) (xs : List Int) (j : Nat), i + m ≤ xs.length → ith (fillF k m i xs) j = if i ≤ j ∧ j < i + m then k else ith xs j
  | 0, i, xs, j, _ => by rw [fillF, if_neg (by omega)]
  | m + 1, i, xs, j, hm => by
    rw [fillF, fillF_ith k m (i + 1) _ j (by rw [List.length_set]; omega), ith_setP _ _ _ _ (by omega)]
    by_cases h1 : i = j
    · subst h1; rw [if_neg (by omega), if_pos rfl, if_pos (by omega)]
    · rw [if_neg h1]
      by_cases h2 : i + 1 ≤ j ∧ j < i + 1 + m
      · rw [if_pos h2, if_pos (by omega)]
      · rw [if_neg h2, if_neg (by omega)]
theorem fillF_len (k : Int) : ∀ (m i : Nat) (xs : List Int), (fillF k m i xs).length = xs.length
  | 0, i, xs => rfl
  | m + 1, i, xs => by rw [fillF, fillF_len k m (i + 1)]; simp
theorem runF_neutral (out : List Int) : ∀ (m j : Nat), (∀ x, j ≤ x → x < runF out m j → wayI (ith out x) < 0) ∧ j ≤ runF out m j ∧ runF out m j ≤ j + m ∧ (runF out m j < j + m → 0 ≤ wayI (ith out (runF out m j)))
  | 0, j => ⟨fun x h1 h2 => by simp [runF] at h2; omega, by simp [runF], by simp [runF], by simp [runF]⟩
  | m + 1, j => by
    unfold runF
    split
    · rename_i hc
      obtain ⟨h1, h2, h3, h4⟩ := runF_neutral out m (j + 1)
      refine ⟨fun x hx1 hx2 => ?_, by omega, by omega, fun h => h4 (by omega)⟩
      by_cases e : x = j
      · subst e; exact hc
      · exact h1 x (by omega) hx2
    · rename_i hc
      exact ⟨fun x h1 h2 => by omega, by omega, by omega, fun _ => by omega⟩
end
section
set_option linter.unusedVariables false
set_option linter.unusedSimpArgs false

theorem pair_shut_all : ∀ k, k < 30 → (pairI (ith brL k)).2.1 = true → pairI (pairI (ith brL k)).1 = (ith brL k, false, true) := by decide +kernel
theorem pair_ok_mem {x : Int} (h : (pairI x).2.2 = true) : ∃ k, k < 30 ∧ ith brL k = x := by
  apply Classical.byContradiction
  intro hn
  have := pairI_miss x (fun j hj e => hn ⟨j, hj, e⟩)
  rw [this] at h
  cases h
theorem pair_inv {x y : Int} (h : pairI x = (y, true, true)) : pairI y = (x, false, true) := by
  obtain ⟨k, hk, rfl⟩ := pair_ok_mem (x := x) (by rw [h])
  have := pair_shut_all k hk (by rw [h])
  rw [h] at this
  exact this

def Cross (p q : Nat × Nat) : Prop := p.1 < q.1 ∧ q.1 < p.2 ∧ p.2 < q.2
def Apart (p q : Nat × Nat) : Prop := p.1 ≠ q.1 ∧ p.1 ≠ q.2 ∧ p.2 ≠ q.1 ∧ p.2 ≠ q.2 ∧ ¬ Cross p q ∧ ¬ Cross q p
def PairOk (rs ks : List Int) (n : Nat) (p : Nat × Nat) : Prop :=
  p.1 < p.2 ∧ p.2 < n ∧ ith ks p.1 = 13 ∧ ith ks p.2 = 13 ∧ pairI (ith rs p.1) = (ith rs p.2, true, true) ∧ pairI (ith rs p.2) = (ith rs p.1, false, true)
structure BInv (rs ks : List Int) (i : Nat) (st : List (Nat × Int)) (out : List (Nat × Nat)) : Prop where
  pos : st.Pairwise (fun x y => x.1 < y.1)
  lt : ∀ x ∈ st, x.1 < i
  ok : ∀ x ∈ st, ith ks x.1 = 13 ∧ pairI (ith rs x.1) = (x.2, true, true)
  outOk : ∀ p ∈ out, PairOk rs ks i p
  apart : out.Pairwise Apart
  stApart : ∀ p ∈ out, ∀ x ∈ st, x.1 ≠ p.1 ∧ x.1 ≠ p.2 ∧ ¬ (p.1 < x.1 ∧ x.1 < p.2)

theorem PairOk.up {rs ks : List Int} {n m : Nat} {p : Nat × Nat} (h : PairOk rs ks n p) (hm : n ≤ m) : PairOk rs ks m p := ⟨h.1, by have := h.2.1; omega, h.2.2⟩
theorem BInv.next {rs ks : List Int} {i : Nat} {st : List (Nat × Int)} {out : List (Nat × Nat)} (h : BInv rs ks i st out) : BInv rs ks (i + 1) st out :=
  ⟨h.pos, fun x hx => by have := h.lt x hx; omega, h.ok, fun p hp => (h.outOk p hp).up (by omega), h.apart, h.stApart⟩
theorem BInv.push {rs ks : List Int} {i : Nat} {st : List (Nat × Int)} {out : List (Nat × Nat)} (h : BInv rs ks i st out) (hk : ith ks i = 13) (o : Int) (hp : pairI (ith rs i) = (o, true, true)) : BInv rs ks (i + 1) (st ++ [(i, o)]) out := by
  refine ⟨?_, fun x hx => ?_, fun x hx => ?_, h.next.outOk, h.apart, fun p hpm x hx => ?_⟩
  · rw [List.pairwise_append]
    exact ⟨h.pos, List.pairwise_singleton _ _, fun x hx y hy => by rw [List.mem_singleton] at hy; subst hy; exact h.lt x hx⟩
  · rw [List.mem_append, List.mem_singleton] at hx
    rcases hx with hx | rfl
    · have := h.lt x hx; omega
    · show i < i + 1; omega
  · rw [List.mem_append, List.mem_singleton] at hx
    rcases hx with hx | rfl
    · exact h.ok x hx
    · exact ⟨hk, hp⟩
  · rw [List.mem_append, List.mem_singleton] at hx
    rcases hx with hx | rfl
    · exact h.stApart p hpm x hx
    · have := (h.outOk p hpm).1
      have := (h.outOk p hpm).2.1
      exact ⟨by show i ≠ p.1; omega, by show i ≠ p.2; omega, by show ¬ (p.1 < i ∧ i < p.2); omega⟩
theorem BInv.close {rs ks : List Int} {i k : Nat} {st : List (Nat × Int)} {out : List (Nat × Nat)} (h : BInv rs ks i st out) (hk : ith ks i = 13) (hkl : k < st.length) (ho : (st.getD k (0, 0)).2 = ith rs i) :
    BInv rs ks (i + 1) (st.take k) (out ++ [((st.getD k (0, 0)).1, i)]) := by
  have hm := getD_mem st (0, 0) k hkl
  generalize hx : st.getD k (0, 0) = x at hm ho
  have hxl := h.lt x hm
  have hxo := h.ok x hm
  have htk : ∀ y ∈ st.take k, y.1 < x.1 := fun y hy => by
    obtain ⟨j, hj, hy'⟩ := List.mem_iff_getElem.1 hy
    rw [List.length_take] at hj
    rw [List.getElem_take] at hy'
    have h1 := (List.pairwise_iff_getElem.1 h.pos) j k (by omega) hkl (by omega)
    have h2 : st[k] = x := by rw [← hx, List.getD_eq_getElem?_getD, List.getElem?_eq_getElem hkl]; rfl
    rw [hy', h2] at h1
    exact h1
  have hnew : PairOk rs ks (i + 1) (x.1, i) := by
    refine ⟨hxl, by show i < i + 1; omega, hxo.1, hk, ?_, ?_⟩
    · show pairI (ith rs x.1) = (ith rs i, true, true)
      rw [hxo.2, ho]
    · have := pair_inv hxo.2
      rw [ho] at this
      exact this
  refine ⟨h.pos.sublist (List.take_sublist _ _), fun y hy => by have := h.lt y (List.mem_of_mem_take hy); omega, fun y hy => h.ok y (List.mem_of_mem_take hy), fun p hp => ?_, ?_, fun p hp y hy => ?_⟩
  · rw [List.mem_append, List.mem_singleton] at hp
    rcases hp with hp | rfl
    · exact h.next.outOk p hp
    · exact hnew
  · rw [List.pairwise_append]
    refine ⟨h.apart, List.pairwise_singleton _ _, fun p hp q hq => ?_⟩
    rw [List.mem_singleton] at hq
    subst hq
    have h1 := (h.outOk p hp).1
    have h2 := (h.outOk p hp).2.1
    have h3 := h.stApart p hp x hm
    exact ⟨fun e => h3.1 e.symm, by show p.1 ≠ i; omega, fun e => h3.2.1 e.symm, by show p.2 ≠ i; omega, fun hc => h3.2.2 ⟨hc.1, hc.2.1⟩, fun hc => by have : i < p.2 := hc.2.2; omega⟩
  · have hyx := htk y hy
    rw [List.mem_append, List.mem_singleton] at hp
    rcases hp with hp | rfl
    · exact h.stApart p hp y (List.mem_of_mem_take hy)
    · exact ⟨by show y.1 ≠ x.1; omega, by show y.1 ≠ i; omega, by show ¬ (x.1 < y.1 ∧ y.1 < i); omega⟩

/-- what is found -/
structure Found (rs ks : List Int) (n : Nat) (out : List (Nat × Nat)) : Prop where
  ok : ∀ p ∈ out, PairOk rs ks n p
  apart : out.Pairwise Apart
theorem Apart.symm {p q : Nat × Nat} (h : Apart p q) : Apart q p := ⟨fun e => h.1 e.symm, fun e => h.2.2.1 e.symm, fun e => h.2.1 e.symm, fun e => h.2.2.2.1 e.symm, h.2.2.2.2.2, h.2.2.2.2.1⟩
theorem Found.perm {rs ks : List Int} {n : Nat} {l out : List (Nat × Nat)} (h : Found rs ks n out) (hp : l.Perm out) : Found rs ks n l :=
  ⟨fun p hm => h.ok p (hp.mem_iff.1 hm), (hp.pairwise_iff (fun h => h.symm)).2 h.apart⟩
theorem brkF_found (rs ks : List Int) : ∀ (m i : Nat) (st : List (Nat × Int)) (out : List (Nat × Nat)), BInv rs ks i st out → Found rs ks (i + m) (brkF rs ks m i st out)
  | 0, i, st, out, h => ⟨h.outOk, h.apart⟩
  | m + 1, i, st, out, h => by
    have e : i + 1 + m = i + (m + 1) := by omega
    unfold brkF
    split
    · have := brkF_found rs ks m (i + 1) st out h.next
      rwa [e] at this
    · rename_i hno
      have h13 : ith ks i = 13 := Classical.byContradiction fun hh => hno (.inr hh)
      have hok : (pairI (ith rs i)).2.2 = true := by
        cases hb : (pairI (ith rs i)).2.2
        · exact absurd (.inl hb) hno
        · rfl
      split
      · rename_i hop
        split
        · exact ⟨fun p hp => (h.outOk p hp).up (by omega), h.apart⟩
        · have hp : pairI (ith rs i) = ((pairI (ith rs i)).1, true, true) := by
            rcases hq : pairI (ith rs i) with ⟨a, b, c⟩
            rw [hq] at hop hok
            simp only at hop hok
            rw [hop, hok]
          have := brkF_found rs ks m (i + 1) _ out (h.push h13 _ hp)
          rwa [e] at this
      · split
        · have := brkF_found rs ks m (i + 1) st out h.next
          rwa [e] at this
        · rename_i k hk
          have hf := findTop_lt st _ _ k hk
          have := brkF_found rs ks m (i + 1) _ _ (h.close h13 hf.1 hf.2)
          rwa [e] at this
theorem brkF_all (rs ks : List Int) (n : Nat) : Found rs ks n (brkF rs ks n 0 [] []) := by
  have := brkF_found rs ks n 0 [] [] ⟨.nil, by simp, by simp, by simp, .nil, by simp⟩
  rwa [Nat.zero_add] at this

theorem alF_ith : ∀ (m i : Nat) (xs : List Int) (j : Nat), i + m ≤ xs.length → ith (alF m i xs) j = (if i ≤ j ∧ j < i + m then alI (ith xs j) else ith xs j) ∧ (alF m i xs).length = xs.length
  | 0, i, xs, j, _ => by rw [alF, if_neg (by omega)]; exact ⟨rfl, rfl⟩
  | m + 1, i, xs, j, hm => by
    unfold alF
    split
    · rename_i h2
      have := alF_ith m (i + 1) (xs.set i 1) j (by rw [List.length_set]; omega)
      rw [ith_setP _ _ _ _ (by omega), List.length_set] at this
      refine ⟨this.1.trans ?_, this.2⟩
      by_cases h1 : i = j
      · subst h1; rw [if_neg (by omega), if_pos rfl, if_pos (by omega), alI, if_pos h2]
      · rw [if_neg h1]
        by_cases h3 : i + 1 ≤ j ∧ j < i + 1 + m
        · rw [if_pos h3, if_pos (by omega)]
        · rw [if_neg h3, if_neg (by omega)]
    · rename_i h2
      have := alF_ith m (i + 1) xs j (by omega)
      refine ⟨this.1.trans ?_, this.2⟩
      by_cases h1 : i = j
      · subst h1; rw [if_neg (by omega), if_pos (by omega), alI, if_neg h2]
      · by_cases h3 : i + 1 ≤ j ∧ j < i + 1 + m
        · rw [if_pos h3, if_pos (by omega)]
        · rw [if_neg h3, if_neg (by omega)]

/-- the last part: everything has a direction behind it -/
theorem restF_turned {D : Int → Prop} (n : Nat) (e sos eos : Int) (he : D e) (hs : D sos) (ys : List Int) (hn : ys.length = n) (hD : ∀ i, i < ys.length → 0 ≤ wayI (ith ys i) → D (wayI (ith ys i))) (hw0 : ∀ v, D v → wayI v = v ∧ 0 ≤ v) :
    ∀ (f i : Nat) (xs : List Int), Turned D ys xs → i ≤ n → n < i + f → (∀ j, j < i → 0 ≤ wayI (ith xs j)) →
      Turned D ys (restF n e sos eos f i xs) ∧ ∀ j, j < n → 0 ≤ wayI (ith (restF n e sos eos f i xs) j)
  | 0, i, xs, _, h1, h2, _ => by omega
  | f + 1, i, xs, h, hi, hf, hbe => by
    unfold restF
    split
    · rename_i hin
      split
      · rename_i hc
        exact restF_turned n e sos eos he hs ys hn hD hw0 f (i + 1) xs h (by omega) (by omega) (fun j hj => by
          by_cases e : j = i
          · subst e; exact hc
          · exact hbe j (by omega))
      · rename_i hc
        obtain ⟨h1, h2, h3, h4⟩ := runF_neutral xs (n - i) i
        have hgt : i + 1 ≤ runF xs (n - i) i := by
          obtain ⟨q, hq⟩ : ∃ q, n - i = q + 1 := ⟨n - i - 1, by omega⟩
          rw [hq, runF, if_pos (by omega)]
          exact (runF_neutral xs q (i + 1)).2.1
        generalize hj : runF xs (n - i) i = j at *
        have ha : D (if 0 < i then wayI (ith xs (i - 1)) else sos) := by
          split
          · rename_i h0
            have hb := hbe (i - 1) (by omega)
            by_cases hy : 0 ≤ wayI (ith ys (i - 1))
            · rw [h.keep (i - 1) (by omega) hy]; exact hD _ (by omega) hy
            · rcases h.turn (i - 1) (by omega) (by omega) with h5 | h5
              · rw [h5] at hb; omega
              · rw [(hw0 _ h5).1]; exact h5
          · exact hs
        have hfill : D (fillI n e sos eos i j xs) := by
          unfold fillI
          generalize (if 0 < i then wayI (ith xs (i - 1)) else sos) = av at ha
          generalize (if j < n then wayI (ith xs j) else eos) = bv
          split
          · exact ha
          · exact he
        have ht := fillF_turned _ hfill ys (j - i) i xs h (by omega) (fun x h5 h6 => h.was x (by omega) (h1 x h5 (by omega)))
        refine restF_turned n e sos eos he hs ys hn hD hw0 f j _ ht (by omega) (by omega) (fun x hx => ?_)
        rw [fillF_ith _ _ _ _ _ (by have := h.len; omega)]
        split
        · rw [(hw0 _ hfill).1]; exact (hw0 _ hfill).2
        · exact hbe x (by omega)
    · exact ⟨h, fun j hj => hbe j (by omega)⟩

/-- what pair.Resolve answers: as long as the shorter list; nothing in it is neutral; what had a direction has it; what had none has one that D allows -/
theorem resolveF_turned {D : Int → Prop} (rs ks : List Int) (level sos eos : Int) (l : List (Nat × Nat)) (he : D (level % 2)) (hs : D (sideI sos)) (hw0 : ∀ v, D v → wayI v = v ∧ 0 ≤ v)
    (hD : ∀ i, i < min rs.length ks.length → 0 ≤ wayI (alI (ith ks i)) → D (wayI (alI (ith ks i))))
    (hl : l.Perm (brkF (rs.take (min rs.length ks.length)) (alF (min rs.length ks.length) 0 (ks.take (min rs.length ks.length))) (min rs.length ks.length) 0 [] [])) :
    Turned D (alF (min rs.length ks.length) 0 (ks.take (min rs.length ks.length))) (resolveF rs ks level sos eos l) ∧ ∀ j, j < min rs.length ks.length → 0 ≤ wayI (ith (resolveF rs ks level sos eos l) j) := by
  generalize hM : min rs.length ks.length = M at *
  have hlen : (ks.take M).length = M := by simp; omega
  have hyl := (alF_ith M 0 (ks.take M) 0 (by omega)).2
  have hyi : ∀ j, j < M → ith (alF M 0 (ks.take M)) j = alI (ith ks j) := fun j hj => by
    rw [(alF_ith M 0 (ks.take M) j (by omega)).1, if_pos (by omega)]
    congr 1
    unfold ith; rw [List.getD_eq_getElem?_getD, List.getD_eq_getElem?_getD, List.getElem?_take, if_pos hj]
  have hf := (brkF_all (rs.take M) (alF M 0 (ks.take M)) M).perm hl
  generalize hY : alF M 0 (ks.take M) = ys at *
  rw [hlen] at hyl
  have hDy : ∀ i, i < ys.length → 0 ≤ wayI (ith ys i) → D (wayI (ith ys i)) := fun i hi hw => by
    rw [hyi i (by omega)] at hw ⊢; exact hD i (by omega) hw
  have hw13 : wayI 13 < 0 := by decide
  have h1 := resF_turned rs M (level % 2) he ys hyl hDy hw0 l 0 (sideI sos) ys (fun p hp => ⟨(hf.ok p hp).1, (hf.ok p hp).2.1, by rw [(hf.ok p hp).2.2.1]; exact hw13, by rw [(hf.ok p hp).2.2.2.1]; exact hw13⟩) (by omega) hs (Turned.refl D ys)
  have h2 := restF_turned M (level % 2) (sideI sos) (sideI eos) he hs ys hyl hDy hw0 (M + 1) 0 _ h1 (by omega) (by omega) (fun j hj => by omega)
  have e : resolveF rs ks level sos eos l = restF M (level % 2) (sideI sos) (sideI eos) (M + 1) 0 (resF rs M (level % 2) l 0 (sideI sos) ys) := by
    unfold resolveF; rw [hM, hY]
  rw [e]; exact h2
end
end Go.Proofs.YtlbclfmbejjneaaGreatDoor
