/- Plain facts on the clusters of a row. No program is in sight. -/
import Derived.Test.YtlbclfmbejjneaaGreatDoorSpecR
namespace Go.Proofs.YtlbclfmbejjneaaGreatDoor
set_option linter.unusedVariables false
set_option linter.unusedSimpArgs false

theorem mem_piece (s : ByteArray) : ∀ (f a : Nat), a ≤ s.size → ∀ q ∈ piecesF s f a, q.2 = s.extract q.1 (q.1 + q.2.size)
  | 0, a, ha, q, hq => by simp [piecesF] at hq
  | f + 1, a, ha, q, hq => by
    rw [piecesF] at hq
    by_cases h : a < s.size
    · rw [if_pos h] at hq
      have hz := ext_size s a ha
      have hn := nextI_bd (s.extract a s.size) (by omega)
      rcases List.mem_cons.1 hq with rfl | hq
      · have : (s.extract a (a + nextI (s.extract a s.size))).size = nextI (s.extract a s.size) := by simp [ByteArray.size_extract]; omega
        show _ = s.extract a (a + (s.extract a (a + nextI (s.extract a s.size))).size)
        rw [this]
      · exact mem_piece s f _ (by omega) q hq
    · rw [if_neg h] at hq; cases hq
theorem mem_inPs {s : ByteArray} {fr tt : Nat} {q : Nat × ByteArray} (h : q ∈ inPs s fr tt) : q.2 = s.extract q.1 (q.1 + q.2.size) :=
  mem_piece s s.size 0 (Nat.zero_le _) q (List.mem_filter.1 h).1
theorem findF_len : ∀ (ps : List (Nat × ByteArray)) (n : Nat), (findF ps n).length = ps.length
  | [], _ => rfl
  | p :: t, n => by rw [findF, List.length_cons, findF_len t, List.length_cons]
theorem findF_get : ∀ (ps : List (Nat × ByteArray)) (n i : Nat) (p : Nat × ByteArray), ps[i]? = some p →
    (findF ps n)[i]? = some (pc0 p.1 p.2.size (n + (((ps.take i).map (·.2)).flatMap runesI).length) (n + (((ps.take i).map (·.2)).flatMap runesI).length + (runesI p.2).length))
  | [], n, i, p, h => by simp at h
  | q :: t, n, 0, p, h => by
    have : q = p := by simpa using h
    subst this
    simp [findF]
  | q :: t, n, i + 1, p, h => by
    rw [findF, List.getElem?_cons_succ, findF_get t _ i p (by simpa using h), List.take_succ_cons, List.map_cons, List.flatMap_cons, List.length_append, ← Nat.add_assoc]
theorem findF_snoc : ∀ (ps : List (Nat × ByteArray)) (n : Nat) (p : Nat × ByteArray),
    findF (ps ++ [p]) n = findF ps n ++ [pc0 p.1 p.2.size (n + ((ps.map (·.2)).flatMap runesI).length) (n + ((ps.map (·.2)).flatMap runesI).length + (runesI p.2).length)]
  | [], n, p => by simp [findF]
  | q :: t, n, p => by
    rw [List.cons_append, findF, findF_snoc t, findF, List.cons_append, List.map_cons, List.flatMap_cons, List.length_append, ← Nat.add_assoc]
theorem take_mid {α : Type} (A B C : List α) : ((A ++ B ++ C).drop A.length).take B.length = B := by
  rw [List.append_assoc, List.drop_left, List.take_left]
theorem found_get {s : ByteArray} {fr tt k m : Nat} (hf : Bord s fr k) (ht : Bord s tt m) (h : fr ≤ tt) (i : Nat) (p : Pc) (hp : (foundI s fr tt)[i]? = some p) :
    fr ≤ p.a ∧ p.a + p.size ≤ tt ∧ 0 < p.size ∧ p = pc0 p.a p.size p.c0 p.c1 ∧ p.c0 < p.c1 ∧ p.c1 ≤ (runesI (s.extract fr tt)).length ∧
      ((runesI (s.extract fr tt)).drop p.c0).take (p.c1 - p.c0) = runesI (s.extract p.a (p.a + p.size)) ∧ (i + 1 = (foundI s fr tt).length → p.c1 = (runesI (s.extract fr tt)).length) := by
  obtain ⟨_, h2, _, h4, _⟩ := inPs_spec hf ht h
  have hr : runesI (s.extract fr tt) = ((inPs s fr tt).map (·.2)).flatMap runesI := by rw [runes_all (s.extract fr tt), h2]
  unfold foundI at hp ⊢
  have hil : i < (inPs s fr tt).length := by
    have := (List.getElem?_eq_some_iff.1 hp).1
    rwa [findF_len] at this
  rw [findF_len]
  obtain ⟨q, hq⟩ : ∃ q, (inPs s fr tt)[i]? = some q := ⟨_, List.getElem?_eq_getElem hil⟩
  have hqm : q ∈ inPs s fr tt := List.mem_of_getElem? hq
  obtain ⟨g1, g2, g3⟩ := h4 q hqm
  have hqe := mem_inPs hqm
  rw [findF_get _ 0 i q hq] at hp
  have hp := (Option.some.inj hp).symm
  have hsplit : inPs s fr tt = (inPs s fr tt).take i ++ [q] ++ (inPs s fr tt).drop (i + 1) := by
    have h1 := List.take_append_drop (i + 1) (inPs s fr tt)
    rw [List.take_add_one, hq] at h1
    exact h1.symm
  have hr2 : runesI (s.extract fr tt) = (((inPs s fr tt).take i).map (·.2)).flatMap runesI ++ runesI q.2 ++ (((inPs s fr tt).drop (i + 1)).map (·.2)).flatMap runesI := by
    rw [hr]
    conv => lhs; rw [hsplit]
    simp
  have hrl := congrArg List.length hr2
  rw [List.length_append, List.length_append] at hrl
  have hpos := runesI_pos2 q.2 g3
  subst hp
  refine ⟨g1, g2, g3, rfl, ?_, ?_, ?_, fun hl => ?_⟩
  · show 0 + _ < 0 + _ + _
    omega
  · show 0 + _ + _ ≤ _
    omega
  · show ((runesI (s.extract fr tt)).drop (0 + _)).take (0 + _ + (runesI q.2).length - (0 + _)) = runesI (s.extract q.1 (q.1 + q.2.size))
    rw [hr2, ← hqe, Nat.zero_add, Nat.add_sub_cancel_left]
    exact take_mid _ _ _
  · show 0 + _ + _ = _
    have : (inPs s fr tt).drop (i + 1) = [] := List.drop_eq_nil_of_le (by omega)
    rw [this] at hrl
    simp at hrl
    simp
    omega
/-- a row's levels: as many as it has characters -/
theorem hangF_len2 (cs : List Int) (base fr : Nat) : ∀ (i : Nat) (h : Bool) (out : List Nat), (hangF cs base fr i h out).length = out.length := hangF_len cs base fr
theorem rowI_some (cs : List Int) (ls : List Nat) (base a m : Nat) (h1 : a + m ≤ cs.length) (h2 : ls.length = cs.length) : ∃ l, rowI cs ls base (a : Int) ((a + m : Nat) : Int) = some l ∧ l.length = m := by
  have e1 : min cs.length ls.length = cs.length := by omega
  have e2 : clampN cs.length (a : Int) = a := by unfold clampN; omega
  have e3 : clampN cs.length ((a + m : Nat) : Int) = a + m := by unfold clampN; omega
  unfold rowI
  simp only [e1, e2, e3]
  rw [if_neg (by omega)]
  refine ⟨_, rfl, ?_⟩
  rw [hangF_len, List.length_take, List.length_drop]
  omega
end Go.Proofs.YtlbclfmbejjneaaGreatDoor
