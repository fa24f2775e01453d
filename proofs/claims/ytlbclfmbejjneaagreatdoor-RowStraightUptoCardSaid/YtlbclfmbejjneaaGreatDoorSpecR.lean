/- What layer 15 (row) tells, as plain functions that go as the code goes. No program is in sight. -/
import Derived.Test.YtlbclfmbejjneaaGreatDoorBordL
import Derived.Test.YtlbclfmbejjneaaGreatDoorV7
import Derived.Test.YtlbclfmbejjneaaGreatDoorRuneV
namespace Go.Proofs.YtlbclfmbejjneaaGreatDoor
set_option linter.unusedVariables false
set_option linter.unusedSimpArgs false

/-- a cluster of a row -/
structure Pc where
  a : Nat
  size : Nat
  c0 : Nat
  c1 : Nat
  level : Nat
  became : ByteArray
  shown : ByteArray
  wide : Int
  e0 : Int
  e1 : Int
instance : Inhabited Pc := ⟨⟨0, 0, 0, 0, 0, ⟨#[]⟩, ⟨#[]⟩, 0, 0, 0⟩⟩
def pc0 (a size c0 c1 : Nat) : Pc := ⟨a, size, c0, c1, 0, ⟨#[]⟩, ⟨#[]⟩, 0, 0, 0⟩
def findF : List (Nat × ByteArray) → Nat → List Pc
  | [], _ => []
  | p :: t, n => pc0 p.1 p.2.size n (n + (runesI p.2).length) :: findF t (n + (runesI p.2).length)
/-- where a row begins and ends in its line -/
def rowA (s : ByteArray) (ra : Int) : Nat := min ra.toNat s.size
def rowB (s : ByteArray) (ra rl : Int) : Nat := rowA s ra + min rl.toNat (s.size - rowA s ra)
def rowFr (s : ByteArray) (ra : Int) : Nat := upB s (rowA s ra)
def rowTo (s : ByteArray) (ra rl : Int) : Nat := upB s (rowB s ra rl)
def foundI (s : ByteArray) (fr tt : Nat) : List Pc := findF (inPs s fr tt) 0
/-- the levels of a row's characters -/
def ownLv (s : ByteArray) (want : Int) (fr m : Nat) : List Nat :=
  (rowI (runesI s) (visualI (runesI s) want).1 (visualI (runesI s) want).2.toNat (runesI (s.extract 0 fr)).length ((runesI (s.extract 0 fr)).length + m : Nat)).getD []
def lastC (L : List Pc) : Nat := (L.getLastD default).c1
def levelP (own : List Nat) (p : Pc) : Pc := { p with level := own.getD p.c0 0 }
def levelsI (s : ByteArray) (want : Int) (raw : Bool) (fr : Nat) (L : List Pc) : List Pc := if raw = true then L else L.map (levelP (ownLv s want fr (lastC L)))
def baseR (s : ByteArray) (want : Int) (raw : Bool) : Nat := if raw = true then 0 else (visualI (runesI s) want).2.toNat
def becomeI (text : ByteArray) (own : List Int) (odd : Bool) : ByteArray := if badI text = true then text else if odd = true then bytesF (mirrorI (ith own 0) :: own.tail) else bytesF own
def changeP (s : ByteArray) (rs : List Int) (p : Pc) : Pc := { p with became := becomeI (s.extract p.a (p.a + p.size)) ((rs.drop p.c0).take (p.c1 - p.c0)) (decide (p.level % 2 = 1)) }
def blankP (s : ByteArray) (p : Pc) : Bool := blankC (s.extract p.a s.size)
/-- the clusters but for the blanks at the end -/
def tailF (s : ByteArray) (L : List Pc) : Nat → Nat
  | 0 => 0
  | t + 1 => if blankP s (L.getD t default) = true then tailF s L t else t + 1
def layF (rw tab : Int) (wideA raw : Bool) : List Pc → Nat → Int → Int → List Pc × Int
  | [], _, x, _ => ([], x)
  | p :: t, i, x, tail =>
    if 0 ≤ (if tail ≤ (i : Int) ∧ rw < x + (textI p.became x tab wideA raw).2 then -1 else tail) then
      ({ p with shown := (textI p.became x tab wideA raw).1, wide := (textI p.became x tab wideA raw).2 } :: (layF rw tab wideA raw t (i + 1) (x + (textI p.became x tab wideA raw).2) (if tail ≤ (i : Int) ∧ rw < x + (textI p.became x tab wideA raw).2 then -1 else tail)).1,
        (layF rw tab wideA raw t (i + 1) (x + (textI p.became x tab wideA raw).2) (if tail ≤ (i : Int) ∧ rw < x + (textI p.became x tab wideA raw).2 then -1 else tail)).2)
    else (p :: (layF rw tab wideA raw t (i + 1) x (-1)).1, (layF rw tab wideA raw t (i + 1) x (-1)).2)
/-- the clusters' edges, in the order in which they are seen -/
def edgeF : List Int → Int → List Pc → List Pc
  | [], _, L => L
  | i :: t, x, L => edgeF t (x + (L.getD i.toNat default).wide) (L.set i.toNat { L.getD i.toNat default with e0 := x, e1 := x + (L.getD i.toNat default).wide })
/-- a row that is laid -/
structure LaidR where
  l : List Pc
  seen : List Int
  fr : Nat
  tt : Nat
  base : Nat
  wide : Int
end Go.Proofs.YtlbclfmbejjneaaGreatDoor
