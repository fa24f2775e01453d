/- What layer 2 (class) tells, as plain functions: tables of steps, the classes for directions, the pairs of brackets. No program is in sight. -/
import Derived.Test.YtbhhebheclfdlaaLib
namespace Go.Proofs.Ytbhhebheclfdlaa

/-- a number as it is asked -/
def known (r : Int) : Int := if r < 0 ∨ 1114111 < r ∨ (55296 ≤ r ∧ r ≤ 57343) then 65533 else r

theorem known_bd (r : Int) : 0 ≤ known r ∧ known r ≤ 1114111 := by unfold known; split <;> omega



/-- what a table of steps says of a number -/
def tabLook : List (Int × Int) → Int → Int
  | [], _ => 0
  | [x], _ => x.2
  | x :: y :: rest, r => if r < y.1 then x.2 else tabLook (y :: rest) r
def risesB : List (Int × Int) → Bool
  | x :: y :: rest => decide (x.1 < y.1) && risesB (y :: rest)
  | _ => true
theorem rises_le : ∀ (T : List (Int × Int)) (i : Nat), risesB T = true → i < T.length → (T.getD 0 (0, 0)).1 ≤ (T.getD i (0, 0)).1
  | [], _, _, h => by simp at h
  | [x], i, _, h => by
    obtain rfl : i = 0 := by simpa using h
    simp
  | x :: y :: rest, 0, _, _ => by simp
  | x :: y :: rest, i + 1, hs, h => by
    simp only [risesB, Bool.and_eq_true, decide_eq_true_eq] at hs
    have := rises_le (y :: rest) i hs.2 (by simpa using h)
    simp at this ⊢
    omega
theorem tabLook_of : ∀ (T : List (Int × Int)) (low : Nat) (r : Int), risesB T = true → low < T.length → (low = 0 ∨ (T.getD low (0, 0)).1 ≤ r) → (low + 1 = T.length ∨ r < (T.getD (low + 1) (0, 0)).1) →
    tabLook T r = (T.getD low (0, 0)).2
  | [], low, _, _, h, _, _ => by simp at h
  | [x], low, r, _, h, _, _ => by
    obtain rfl : low = 0 := by simpa using h
    simp [tabLook]
  | x :: y :: rest, 0, r, _, _, _, h2 => by
    simp only [tabLook]
    rcases h2 with h2 | h2
    · simp at h2
    · simp at h2; rw [if_pos h2]; simp
  | x :: y :: rest, low + 1, r, hs, h, h1, h2 => by
    simp only [risesB, Bool.and_eq_true, decide_eq_true_eq] at hs
    have hle := rises_le (y :: rest) low hs.2 (by simpa using h)
    simp only [List.getD_cons_succ] at h1 h2
    have h1' : ((y :: rest).getD low (0, 0)).1 ≤ r := by
      rcases h1 with h1 | h1
      · omega
      · exact h1
    simp only [tabLook]
    rw [if_neg (by rw [List.getD_cons_zero] at hle; omega)]
    exact tabLook_of (y :: rest) low r hs.2 (by simpa using h) (.inr h1') (by simpa using h2)

def tabSmall (T : List (Int × Int)) : Bool := T.all fun x => decide (0 ≤ x.2) && decide (x.2 ≤ 127)
theorem tabSmall_bd {T : List (Int × Int)} (h : tabSmall T = true) (i : Nat) : 0 ≤ (T.getD i (0, 0)).2 ∧ (T.getD i (0, 0)).2 ≤ 127 := by
  rw [List.getD_eq_getElem?_getD]
  cases hx : T[i]? with
  | none => simp
  | some x =>
    have := List.all_eq_true.1 h x (List.mem_of_getElem? hx)
    simpa using this

def dirsT : List (Int × Int) := [(0, 9), (9, 11), (10, 10), (11, 11), (12, 12), (13, 10), (14, 9), (28, 10), (31, 11), (32, 12), (33, 13), (35, 5), (38, 13), (43, 4), (44, 7), (45, 4), (46, 7), (48, 3), (58, 7), (59, 13), (65, 0), (91, 13), (97, 0), (123, 13), (127, 9), (133, 10), (134, 9), (160, 7), (161, 13), (162, 5), (166, 13), (173, 9), (174, 13), (176, 5), (178, 3), (180, 13), (185, 3), (186, 13), (192, 0), (215, 13), (216, 0), (247, 13), (248, 0), (768, 8), (880, 0), (1155, 8), (1162, 0), (1424, 1), (1425, 8), (1470, 1), (1471, 8), (1472, 1), (1473, 8), (1475, 1), (1476, 8), (1478, 1), (1479, 8), (1480, 1), (1536, 6), (1542, 13), (1544, 2), (1548, 7), (1549, 2), (1552, 8), (1563, 2), (1611, 8), (1632, 6), (1642, 5), (1643, 6), (1645, 2), (1648, 8), (1649, 2), (1750, 8), (1757, 6), (1758, 2), (1759, 8), (1765, 2), (1767, 8), (1769, 2), (1770, 8), (1774, 2), (1776, 3), (1786, 2), (1984, 1), (2144, 0), (3633, 8), (3634, 0), (3636, 8), (3643, 0), (3655, 8), (3663, 0), (5760, 12), (5761, 0), (6832, 8), (6912, 0), (7616, 8), (7680, 0), (8192, 12), (8203, 9), (8206, 0), (8207, 1), (8208, 13), (8232, 12), (8233, 10), (8234, 14), (8235, 15), (8236, 18), (8237, 16), (8238, 17), (8239, 7), (8240, 5), (8245, 13), (8287, 12), (8288, 9), (8294, 19), (8295, 20), (8296, 21), (8297, 22), (8298, 0), (8304, 3), (8314, 0), (8320, 3), (8330, 0), (8352, 5), (8400, 8), (8448, 0), (8592, 13), (8722, 4), (8723, 13), (9372, 0), (9472, 13), (11264, 0), (12288, 12), (12289, 13), (12293, 0), (12296, 13), (12321, 0), (12330, 8), (12334, 0), (12336, 13), (12337, 0), (12441, 8), (12443, 0), (64285, 1), (64336, 2), (65024, 8), (65040, 0), (65056, 8), (65072, 0), (65136, 2), (65279, 9), (65280, 0), (65281, 13), (65283, 5), (65286, 13), (65291, 4), (65292, 7), (65293, 4), (65294, 7), (65296, 3), (65306, 7), (65307, 13), (65313, 0), (65339, 13), (65345, 0), (65371, 13), (65382, 0), (65532, 13), (65534, 0), (67584, 1), (69632, 0), (127744, 13), (129792, 0)]
def dirI (r : Int) : Int := tabLook dirsT (known r)
/-- the brackets, an opening one and its closing one by turns -/
def brL : List Int := [40, 41, 91, 93, 123, 125, 12296, 12297, 12298, 12299, 12300, 12301, 12302, 12303, 12304, 12305, 12308, 12309, 12310, 12311, 12312, 12313, 12314, 12315, 65288, 65289, 65339, 65341, 65371, 65373]
/-- what class.Pair tells: the other one, whether it opens, whether it is a bracket -/
def pairAt : List Int → Int → Int × Bool × Bool
  | o :: c :: rest, r => if r = o then (c, true, true) else if r = c then (o, false, true) else pairAt rest r
  | _, _ => (0, false, false)
def pairI (r : Int) : Int × Bool × Bool := pairAt brL r

def farI (k : Nat) : Int := if k % 2 = 0 then (if (1 < k ∧ k < 6) ∨ 25 < k then 2 else 1) else (if (1 < k ∧ k < 6) ∨ 25 < k then -2 else -1)
theorem pair_hit : ∀ k, k < 30 → 40 ≤ ith brL k ∧ ith brL k ≤ 65373 ∧ (65339 ≤ ith brL k ↔ 25 < k) ∧ pairI (ith brL k) = (ith brL k + farI k, decide (k % 2 = 0), true) := by decide +kernel
theorem pair_miss : ∀ (l : List Int) (r : Int), (∀ x ∈ l, x ≠ r) → pairAt l r = (0, false, false)
  | [], _, _ => rfl
  | [_], _, _ => rfl
  | o :: c :: rest, r, h => by
    unfold pairAt
    rw [if_neg (fun e => h o (by simp) e.symm), if_neg (fun e => h c (by simp) e.symm)]
    exact pair_miss rest r (fun x hx => h x (by simp [hx]))
theorem pairI_miss (r : Int) (h : ∀ j, j < 30 → ith brL j ≠ r) : pairI r = (0, false, false) := by
  refine pair_miss brL r fun x hx e => ?_
  obtain ⟨j, hj, hx⟩ := List.mem_iff_getElem.1 hx
  exact h j (by simpa [brL] using hj) (by rw [ith, List.getD_eq_getElem?_getD, List.getElem?_eq_getElem hj]; simpa [hx] using e)


end Go.Proofs.Ytbhhebheclfdlaa
