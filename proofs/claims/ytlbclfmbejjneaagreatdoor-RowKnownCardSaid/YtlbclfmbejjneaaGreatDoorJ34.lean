/- Part 34 of the proof (merged by a program out of the texts SpecL): lemmas of no further condition than each states. -/
import Derived.Test.YtlbclfmbejjneaaGreatDoorJ33
namespace Go.Proofs.YtlbclfmbejjneaaGreatDoor
set_option linter.unusedVariables false
set_option linter.unusedSimpArgs false
section
def madeI (s : ByteArray) (join : Bool) (fr tt : Nat) : List Int := if join = true then shapedI (runesI (s.extract fr tt)) else runesI (s.extract fr tt)
theorem madeI_len (s : ByteArray) (join : Bool) (fr tt : Nat) : (madeI s join fr tt).length = (runesI (s.extract fr tt)).length := by
 unfold madeI
 split
 ·exact shapedI_len _
 ·rfl
def lay2 (s : ByteArray) (want : Int) (join raw : Bool) (ra rl : Int) : List Pc :=
 (levelsI s want raw (rowFr s ra) (foundI s (rowFr s ra) (rowTo s ra rl))).map (changeP s (madeI s join (rowFr s ra) (rowTo s ra rl)))
def lay3 (s : ByteArray) (tab want : Int) (wideA join raw : Bool) (ra rl rw : Int) : List Pc × Int :=
 layF rw tab wideA raw (lay2 s want join raw ra rl) 0 0 (tailF s (lay2 s want join raw ra rl) (lay2 s want join raw ra rl).length)
def laySeen (s : ByteArray) (want : Int) (join raw : Bool) (ra rl : Int) : List Int := orderI ((lay2 s want join raw ra rl).map (·.level))
def layL (s : ByteArray) (tab want : Int) (wideA join raw : Bool) (ra rl rw : Int) : List Pc := edgeF (laySeen s want join raw ra rl) 0 (lay3 s tab want wideA join raw ra rl rw).1
def layI (s : ByteArray) (tab want : Int) (wideA join raw : Bool) (ra rl rw : Int) : LaidR :=
 ⟨layL s tab want wideA join raw ra rl rw, laySeen s want join raw ra rl, rowFr s ra, rowTo s ra rl, baseR s want raw, (lay3 s tab want wideA join raw ra rl rw).2⟩
structure Ce where
 text : ByteArray
 part : Int
 a : Nat
 len : Nat
 right : Bool
deriving DecidableEq
def dotS : ByteArray := ⟨#[226, 151, 140]⟩
def dotB (s : ByteArray) : Bool := decide (3 ≤ s.size) && decide (s.extract 0 3 = dotS)
def wholeB (p : Pc) : Bool := decide (p.shown = p.became) || dotB p.shown
def oddB (p : Pc) : Bool := decide (p.level % 2 = 1)
def cellsP (p : Pc) : List Ce :=
 (List.range p.wide.toNat).map fun (i : Nat) =>
   if wholeB p = true then Ce.mk (if i = 0 then p.shown else ⟨#[]⟩) (i : Int) p.a p.size (oddB p)
   else Ce.mk ⟨#[p.shown.get! i]⟩ 0 p.a p.size (oddB p)
def cellsF (L : List Pc) : List Int → List Ce
 | [] => []
 | i :: t => (if 0 < (L.getD i.toNat default).wide then cellsP (L.getD i.toNat default) else []) ++ cellsF L t
def cellsI (W : LaidR) : List Ce := cellsF W.l W.seen
def asciiB (s : ByteArray) : Bool := s.data.toList.all fun b => decide (b.toNat < 128)
def GoodP (p : Pc) : Prop := 0 < p.wide → p.wide ≤ 19 ∧ (wholeB p = true ∨ asciiB p.shown = true ∧ p.wide = p.shown.size)
def edgeI (W : LaidR) (i : Nat) (back : Bool) : Int :=
 if back = true ∧ i = 0 then (if W.base % 2 = 1 then W.wide else 0)
 else if back = true then (if oddB (W.l.getD (i - 1) default) = true then (W.l.getD (i - 1) default).e0 else (W.l.getD (i - 1) default).e1)
 else if i = W.l.length then (if W.base % 2 = 1 then 0 else W.wide)
 else (if oddB (W.l.getD i default) = true then (W.l.getD i default).e1 else (W.l.getD i default).e0)
def leftF (c : Int) : List Pc → Nat
 | [] => 0
 | p :: t => if ((p.a + p.size : Nat) : Int) ≤ c then leftF c t + 1 else 0
def placeI (W : LaidR) (c : Int) (back : Bool) : Int := edgeI W (leftF c W.l) back
theorem tailF_le (s : ByteArray) (L : List Pc) : ∀ t, tailF s L t ≤ t
 | 0 => Nat.le_refl _
 | t + 1 => by
   rw [tailF]
   split
   ·have := tailF_le s L t; omega
   ·exact Nat.le_refl _
def tlF (rw : Int) (i : Nat) (x n t : Int) : Int := if t ≤ (i : Int) ∧ rw < x + n then -1 else t
theorem layF_cons (rw tab : Int) (wideA raw : Bool) (p : Pc) (L : List Pc) (i : Nat) (x t : Int) : layF rw tab wideA raw (p :: L) i x t =
 if 0 ≤ tlF rw i x (textI p.became x tab wideA raw).2 t then
  ({p with shown := (textI p.became x tab wideA raw).1, wide := (textI p.became x tab wideA raw).2 } :: (layF rw tab wideA raw L (i + 1) (x + (textI p.became x tab wideA raw).2) (tlF rw i x (textI p.became x tab wideA raw).2 t)).1,
    (layF rw tab wideA raw L (i + 1) (x + (textI p.became x tab wideA raw).2) (tlF rw i x (textI p.became x tab wideA raw).2 t)).2)
 else (p :: (layF rw tab wideA raw L (i + 1) x (-1)).1, (layF rw tab wideA raw L (i + 1) x (-1)).2) := rfl
theorem layF_len (rw tab : Int) (wideA raw : Bool) : ∀ (L : List Pc) (i : Nat) (x t : Int), (layF rw tab wideA raw L i x t).1.length = L.length
 | [], _, _, _ => rfl
 | p :: L, i, x, t => by
   rw [layF_cons]
   by_cases h : 0 ≤ tlF rw i x (textI p.became x tab wideA raw).2 t
   ·rw [if_pos h]; simp only [List.length_cons, layF_len rw tab wideA raw L]
   ·rw [if_neg h]; simp only [List.length_cons, layF_len rw tab wideA raw L]
def LaidP (tab : Int) (wideA raw : Bool) (p q : Pc) : Prop := q = p ∨ ∃ x : Int, q = { p with shown := (textI p.became x tab wideA raw).1, wide := (textI p.became x tab wideA raw).2 }
theorem layF_get (rw tab : Int) (wideA raw : Bool) : ∀ (L : List Pc) (i : Nat) (x t : Int) (j : Nat) (p : Pc), L[j]? = some p → ∃ q, (layF rw tab wideA raw L i x t).1[j]? = some q ∧ LaidP tab wideA raw p q
 | [], _, _, _, j, p, h => by simp at h
 | r :: L, i, x, t, 0, p, h => by
   have : r = p := by simpa using h
   subst this
   rw [layF_cons]
   by_cases h2 : 0 ≤ tlF rw i x (textI r.became x tab wideA raw).2 t
   ·rw [if_pos h2]; exact ⟨_, rfl, .inr ⟨x, rfl⟩⟩
   ·rw [if_neg h2]; exact ⟨_, rfl, .inl rfl⟩
 | r :: L, i, x, t, j + 1, p, h => by
   rw [layF_cons]
   by_cases h2 : 0 ≤ tlF rw i x (textI r.became x tab wideA raw).2 t
   ·rw [if_pos h2]; exact layF_get rw tab wideA raw L _ _ _ j p (by simpa using h)
   ·rw [if_neg h2]; exact layF_get rw tab wideA raw L _ _ _ j p (by simpa using h)
def wsum : List Pc → Int
 | [] => 0
 | p :: t => p.wide + wsum t
theorem layF_sum (rw tab : Int) (wideA raw : Bool) : ∀ (L : List Pc) (i : Nat) (x t : Int), (∀ p ∈ L, p.wide = 0) → (layF rw tab wideA raw L i x t).2 = x + wsum (layF rw tab wideA raw L i x t).1
 | [], _, x, _, _ => by simp [layF, wsum]
 | p :: L, i, x, t, h => by
   have h1 := h p (List.mem_cons_self ..)
   have h2 : ∀ q ∈ L, q.wide = 0 := fun q hq => h q (List.mem_cons_of_mem _ hq)
   rw [layF_cons]
   by_cases h3 : 0 ≤ tlF rw i x (textI p.became x tab wideA raw).2 t
   ·rw [if_pos h3]
    dsimp only
    rw [layF_sum rw tab wideA raw L _ _ _ h2, wsum]
    dsimp only
    omega
   ·rw [if_neg h3]
    dsimp only
    rw [layF_sum rw tab wideA raw L _ _ _ h2, wsum, h1]
    omega
theorem edgeF_len : ∀ (o : List Int) (x : Int) (L : List Pc), (edgeF o x L).length = L.length
 | [], _, _ => rfl
 | i :: t, x, L => by rw [edgeF, edgeF_len t, List.length_set]
end
end Go.Proofs.YtlbclfmbejjneaaGreatDoor
