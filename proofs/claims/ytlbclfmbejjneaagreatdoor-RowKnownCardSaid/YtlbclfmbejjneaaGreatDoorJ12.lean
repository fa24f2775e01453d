/- Part 12 of the proof (merged by a program out of the texts PlainW, BordL, Rq, Cnt): lemmas of no further condition than each states. -/
import Derived.OrdersHeld
import Derived.OrdersIn
import Derived.Deep.QuietTactic
import Derived.BigQuiet
import Derived.Deep.RegionHeld3
import Derived.RangeFuncCalls
import Derived.WalkKit
import Derived.Deep.DeepCutAuto
import Derived.Deep.CutRange
import Derived.Test.YtlbclfmbejjneaaGreatDoorJ11
namespace Go.Proofs.YtlbclfmbejjneaaGreatDoor
set_option linter.unusedVariables false
set_option linter.unusedSimpArgs false
section
def szs : List ByteArray → Nat
 | [] => 0
 | c :: t => c.size + szs t
theorem ext_eq {t : ByteArray} {a b c d : Nat} (h1 : a = c) (h2 : b = d) : t.extract a b = t.extract c d := by rw [h1, h2]
theorem cut_pieces (T : ByteArray) (a n : Nat) (h : Bord T a n) (P R : List ByteArray) (hP : (piecesF T T.size a).map (·.2) = P ++ R) :
 a + szs P ≤ T.size ∧ Bord T (a + szs P) (n + P.length) ∧ (piecesI (T.extract a (a + szs P))).map (·.2) = P ∧ (piecesF T T.size (a + szs P)).map (·.2) = R := by
 induction P generalizing a n with
 | nil =>
   have hz : (T.extract a (a + szs [])).size = 0 := by rw [szs]; simp [ByteArray.size_extract]
   rw [szs, Nat.add_zero]
   refine ⟨h.1, h, ?_, by rw [hP]; rfl⟩
   unfold piecesI
   rw [szs, Nat.add_zero] at hz
   rw [hz]; rfl
 | cons x t ih =>
   have hlt : a < T.size := by
    by_cases e : a < T.size
    ·exact e
    ·have : a = T.size := by have := h.1; omega
     rw [this, piecesF_nil] at hP; cases hP
   have hP0 := hP
   rw [piecesF_cons T a hlt, List.map_cons, List.cons_append] at hP
   obtain ⟨hx, ht⟩ := List.cons.inj hP
   have hn := nextI_bd (T.extract a T.size) (by rw [ext_size T a (by omega)]; omega)
   rw [ext_size T a (by omega)] at hn
   have hxz : x.size = nextI (T.extract a T.size) := by rw [← hx]; simp [ByteArray.size_extract]; omega
   obtain ⟨i1, i2, i3, i4⟩ := ih (a + nextI (T.extract a T.size)) (n + 1) (h.next hlt) ht
   have hs : a + szs (x :: t) = a + nextI (T.extract a T.size) + szs t := by rw [szs, hxz]; omega
   rw [hs]
   refine ⟨i1, by rw [List.length_cons, show n + (t.length + 1) = n + 1 + t.length by omega]; exact i2, ?_, i4⟩
   obtain ⟨e, he⟩ : ∃ e, a + nextI (T.extract a T.size) + szs t = e := ⟨_, rfl⟩
   rw [he] at i1 i3 ⊢
   obtain ⟨u, hu⟩ : ∃ u, T.extract a T.size = u := ⟨_, rfl⟩
   have huz : u.size = T.size - a := by rw [← hu]; exact ext_size T a (by omega)
   have hcut : T.extract a e = u.extract 0 (e - a) := by
    rw [← hu, ext_ext]
    exact ext_eq (by omega) (by omega)
   rw [hu] at hn hxz hx he i3
   have hnc := next_cut u (e - a) (by omega) (by omega)
   rw [hcut]
   have hz : (u.extract 0 (e - a)).size = e - a := by simp [ByteArray.size_extract]; omega
   unfold piecesI
   rw [hz]
   have hc := piecesF_cons (u.extract 0 (e - a)) 0 (by rw [hz]; omega)
   rw [hz, show (u.extract 0 (e - a)).extract 0 (e - a) = u.extract 0 (e - a) by rw [ext_ext]; exact ext_eq (by omega) (by omega), hnc, Nat.zero_add] at hc
   have hq0 : u.extract 0 (nextI u) = x := by
    rw [← hx]
    generalize nextI u = m at hn hxz he
    rw [← hu, ext_ext]
    exact ext_eq (by omega) (by omega)
   have hq : (u.extract 0 (e - a)).extract (nextI u) (e - a) = T.extract (a + nextI u) e := by
    generalize nextI u = m at hn hxz he
    rw [← hu, ext_ext, ext_ext]
    exact ext_eq (by omega) (by omega)
   have hq1 : (u.extract 0 (e - a)).extract 0 (nextI u) = x := by
    rw [← hq0, ext_ext]
    exact ext_eq (by omega) (by omega)
   rw [hc, List.map_cons, hq1]
   refine congrArg (x :: ·) ?_
   have hp := pieces_tail (u.extract 0 (e - a)) (nextI u) (by rw [hz]; omega)
   rw [hz, hq] at hp
   rw [hp, List.map_map, ← i3]
   rfl
end
section
def clAtF (x : Nat) : List (Nat × ByteArray) → Nat → Nat × Nat
 | [], n => (n, n)
 | p :: t, n => if x < p.1 + p.2.size then (p.1, p.1 + p.2.size) else clAtF x t n
def clAt (s : ByteArray) (x : Int) : Nat × Nat := clAtF (min x.toNat s.size) (piecesI s) s.size
def upB (s : ByteArray) (x : Nat) : Nat := if (clAt s x).1 = x then x else (clAt s x).2
theorem pieces_mid (s : ByteArray) : ∀ (L : List (Nat × ByteArray)) (a b : Nat), a ≤ s.size → b ≤ s.size → piecesF s s.size a = L ++ piecesF s s.size b →
 a + szs (L.map (·.2)) = b ∧ (∀ p ∈ L, a ≤ p.1 ∧ p.1 < b ∧ p.1 + p.2.size ≤ b ∧ 0 < p.2.size) ∧ (L = [] → a = b)
 | [], a, b, ha, hb, h => by
   have hab : a = b := by
    by_cases h1 : a < s.size
    ·rw [List.nil_append, piecesF_cons s a h1] at h
     by_cases h2 : b < s.size
     ·rw [piecesF_cons s b h2] at h
      have := (List.cons.inj h).1
      injection this
     ·rw [show b = s.size by omega, piecesF_nil] at h; cases h
    ·rw [List.nil_append, show a = s.size by omega, piecesF_nil] at h
     by_cases h2 : b < s.size
     ·rw [piecesF_cons s b h2] at h; cases h
     ·omega
   exact ⟨by simp [szs, hab], (fun p hp => by cases hp), fun _ => hab⟩
 | q :: t, a, b, ha, hb, h => by
   have hlt : a < s.size := by
    by_cases e : a < s.size
    ·exact e
    ·rw [show a = s.size by omega, piecesF_nil] at h; cases h
   rw [piecesF_cons s a hlt, List.cons_append] at h
   have hz := ext_size s a ha
   have hn := nextI_bd (s.extract a s.size) (by omega)
   obtain ⟨hq, ht⟩ := List.cons.inj h
   obtain ⟨i1, i2, _⟩ := pieces_mid s t _ b (by omega) hb ht
   have hqz : q.2.size = nextI (s.extract a s.size) := by rw [← hq]; simp [ByteArray.size_extract]; omega
   have hq1 : q.1 = a := by rw [← hq]
   refine ⟨by rw [List.map_cons, szs, hqz]; omega, fun p hp => ?_, fun e => by cases e⟩
   rcases List.mem_cons.1 hp with rfl | hp
   ·omega
   ·have := i2 p hp; omega
theorem bord_ord {s : ByteArray} {a b k m : Nat} (ha : Bord s a k) (hb : Bord s b m) (h : k ≤ m) : ∃ L, piecesF s s.size a = L ++ piecesF s s.size b ∧ L.length = m - k := by
 obtain ⟨a1, pre, a2, a3⟩ := ha
 obtain ⟨b1, qre, b2, b3⟩ := hb
 have he : pre ++ piecesF s s.size a = qre ++ piecesF s s.size b := a2.symm.trans b2
 refine ⟨qre.drop k, ?_, by rw [List.length_drop, b3]⟩
 have h1 := congrArg (List.drop k) he
 rw [List.drop_append_of_le_length (by omega), List.drop_eq_nil_of_le (by omega : pre.length ≤ k), List.nil_append, List.drop_append_of_le_length (by omega)] at h1
 exact h1
theorem bord_le {s : ByteArray} {a b k m : Nat} (ha : Bord s a k) (hb : Bord s b m) (h : k ≤ m) : a ≤ b := by
 obtain ⟨L, h1, _⟩ := bord_ord ha hb h
 have := (pieces_mid s L a b ha.1 hb.1 h1).1
 omega
theorem bord_lt {s : ByteArray} {a b k m : Nat} (ha : Bord s a k) (hb : Bord s b m) (h : a < b) : k < m := by
 by_cases e : k < m
 ·exact e
 ·have := bord_le hb ha (by omega); omega
theorem bord_eq {s : ByteArray} {a k m : Nat} (ha : Bord s a k) (hb : Bord s a m) : k = m := by
 have key : ∀ {k m : Nat}, Bord s a k → Bord s a m → k ≤ m → k = m := by
  intro k m ha hb h
  obtain ⟨L, h1, h2⟩ := bord_ord ha hb h
  have h3 : L = [] := by
   cases L with
   | nil => rfl
   | cons q t =>
     have := (pieces_mid s _ a a ha.1 hb.1 h1).2.1 q (by simp)
     omega
  rw [h3] at h2
  simp at h2
  omega
 rcases Nat.le_total k m with h | h
 ·exact key ha hb h
 ·exact (key hb ha h).symm
theorem bord_gap {s : ByteArray} {p c k m : Nat} (hp : Bord s p k) (hc : Bord s c m) (h : p < c) : p + nextI (s.extract p s.size) ≤ c := by
 have hlt : p < s.size := by have := hc.1; omega
 have := bord_lt hp hc h
 exact bord_le (hp.next hlt) hc (by omega)
theorem bord_end (s : ByteArray) : Bord s s.size (piecesI s).length := ⟨Nat.le_refl _, piecesI s, by rw [piecesF_nil, List.append_nil], rfl⟩
theorem clAtF_spec (s : ByteArray) (x : Nat) (hx : x ≤ s.size) : ∀ (f a k : Nat), s.size ≤ a + f → Bord s a k → a ≤ x →
 ∃ k1 k2, Bord s (clAtF x (piecesF s s.size a) s.size).1 k1 ∧ Bord s (clAtF x (piecesF s s.size a) s.size).2 k2 ∧ (clAtF x (piecesF s s.size a) s.size).1 ≤ x ∧ x ≤ (clAtF x (piecesF s s.size a) s.size).2 ∧
   (x < s.size → x < (clAtF x (piecesF s s.size a) s.size).2 ∧ (clAtF x (piecesF s s.size a) s.size).2 = (clAtF x (piecesF s s.size a) s.size).1 + nextI (s.extract (clAtF x (piecesF s s.size a) s.size).1 s.size)) ∧
   (x = s.size → (clAtF x (piecesF s s.size a) s.size).1 = s.size ∧ (clAtF x (piecesF s s.size a) s.size).2 = s.size)
 | 0, a, k, hf, hb, ha => by
   have : a = s.size := by have := hb.1; omega
   subst this
   rw [piecesF_nil, clAtF]
   exact ⟨_, _, bord_end s, bord_end s, ha, hx, fun h => by omega, fun _ => ⟨rfl, rfl⟩⟩
 | f + 1, a, k, hf, hb, ha => by
   by_cases hlt : a < s.size
   ·have hz := ext_size s a (by omega)
    have hn := nextI_bd (s.extract a s.size) (by omega)
    have hps : (s.extract a (a + nextI (s.extract a s.size))).size = nextI (s.extract a s.size) := by simp [ByteArray.size_extract]; omega
    rw [piecesF_cons s a hlt, clAtF, hps]
    by_cases h : x < a + nextI (s.extract a s.size)
    ·rw [if_pos h]
     exact ⟨_, _, hb, hb.next hlt, ha, by omega, fun _ => ⟨h, rfl⟩, fun e => by omega⟩
    ·rw [if_neg h]
     exact clAtF_spec s x hx f _ _ (by omega) (hb.next hlt) (by omega)
   ·have : a = s.size := by have := hb.1; omega
    subst this
    rw [piecesF_nil, clAtF]
    exact ⟨_, _, bord_end s, bord_end s, ha, hx, fun h => by omega, fun _ => ⟨rfl, rfl⟩⟩
theorem clAt_spec (s : ByteArray) (x : Int) :
 ∃ k1 k2, Bord s (clAt s x).1 k1 ∧ Bord s (clAt s x).2 k2 ∧ (clAt s x).1 ≤ min x.toNat s.size ∧ min x.toNat s.size ≤ (clAt s x).2 ∧
   (min x.toNat s.size < s.size → min x.toNat s.size < (clAt s x).2 ∧ (clAt s x).2 = (clAt s x).1 + nextI (s.extract (clAt s x).1 s.size)) ∧ (min x.toNat s.size = s.size → (clAt s x).1 = s.size ∧ (clAt s x).2 = s.size) :=
 clAtF_spec s (min x.toNat s.size) (Nat.min_le_right _ _) s.size 0 0 (by omega) (Bord.zero s) (Nat.zero_le _)
theorem upB_spec (s : ByteArray) (x : Nat) (hx : x ≤ s.size) : ∃ k, Bord s (upB s x) k ∧ x ≤ upB s x ∧ ∀ c m, Bord s c m → x ≤ c → upB s x ≤ c := by
 obtain ⟨k1, k2, h1, h2, h3, h4, h5, h6⟩ := clAt_spec s x
 have hm : min (x : Int).toNat s.size = x := by omega
 rw [hm] at h3 h4 h5 h6
 unfold upB
 by_cases e : (clAt s (x : Int)).1 = x
 ·rw [if_pos e]
  exact ⟨k1, e ▸ h1, Nat.le_refl _, fun c m _ h => h⟩
 ·rw [if_neg e]
  refine ⟨k2, h2, h4, fun c m hc hxc => ?_⟩
  by_cases h : x < s.size
  ·rw [(h5 h).2]
   exact bord_gap h1 hc (by omega)
  ·have := h6 (by omega)
   omega
theorem upB_mono (s : ByteArray) (x y : Nat) (h : x ≤ y) (hy : y ≤ s.size) : upB s x ≤ upB s y := by
 obtain ⟨_, _, _, h3⟩ := upB_spec s x (by omega)
 obtain ⟨k, h4, h5, _⟩ := upB_spec s y hy
 exact h3 _ _ h4 (by omega)
def inPs (s : ByteArray) (fr tt : Nat) : List (Nat × ByteArray) := (piecesI s).filter (fun p => decide (fr ≤ p.1) && decide (p.1 < tt))
theorem inPs_spec {s : ByteArray} {fr tt k m : Nat} (hf : Bord s fr k) (ht : Bord s tt m) (h : fr ≤ tt) :
 piecesF s s.size fr = inPs s fr tt ++ piecesF s s.size tt ∧ (inPs s fr tt).map (·.2) = (piecesI (s.extract fr tt)).map (·.2) ∧ fr + szs ((inPs s fr tt).map (·.2)) = tt ∧
  (∀ p ∈ inPs s fr tt, fr ≤ p.1 ∧ p.1 + p.2.size ≤ tt ∧ 0 < p.2.size) ∧ ∃ pre, piecesI s = pre ++ inPs s fr tt ++ piecesF s s.size tt ∧ pre.length = k ∧ ∀ p ∈ pre, p.1 < fr := by
 have hkm : k ≤ m := by
  by_cases e : fr = tt
  ·subst e; exact Nat.le_of_eq (bord_eq hf ht)
  ·exact Nat.le_of_lt (bord_lt hf ht (by omega))
 obtain ⟨L, hL, _⟩ := bord_ord hf ht hkm
 obtain ⟨a1, a2, a3⟩ := pieces_mid s L fr tt hf.1 ht.1 hL
 obtain ⟨hfz, pre, p1, p2⟩ := hf
 obtain ⟨b1, b2, _⟩ := pieces_mid s pre 0 fr (Nat.zero_le _) hfz p1
 have hfil : inPs s fr tt = L := by
  unfold inPs
  rw [p1, hL, List.filter_append, List.filter_append]
  have e1 : pre.filter (fun p => decide (fr ≤ p.1) && decide (p.1 < tt)) = [] := by
   rw [List.filter_eq_nil_iff]
   intro p hp
   have := (b2 p hp).2.1
   simp; omega
  have e2 : L.filter (fun p => decide (fr ≤ p.1) && decide (p.1 < tt)) = L := by
   rw [List.filter_eq_self]
   intro p hp
   have := a2 p hp
   simp; omega
  have e3 : (piecesF s s.size tt).filter (fun p => decide (fr ≤ p.1) && decide (p.1 < tt)) = [] := by
   rw [List.filter_eq_nil_iff]
   intro p hp
   have := (pieces_mid s (piecesF s s.size tt) tt s.size ht.1 (Nat.le_refl _) (by rw [piecesF_nil, List.append_nil])).2.1 p hp
   simp; omega
  rw [e1, e2, e3]
  simp
 have hmap : (piecesF s s.size fr).map (·.2) = L.map (·.2) ++ (piecesF s s.size tt).map (·.2) := by rw [hL, List.map_append]
 obtain ⟨c1, c2, c3, c4⟩ := cut_pieces s fr k ⟨hfz, pre, p1, p2⟩ _ _ hmap
 rw [a1] at c3
 rw [hfil]
 exact ⟨hL, c3.symm, a1, fun p hp => ⟨(a2 p hp).1, (a2 p hp).2.2⟩, pre, by rw [p1, hL, List.append_assoc], p2, fun p hp => (b2 p hp).2.1⟩
end
section
open Go Go.RowKit
def plainB (o : Oper) : Bool := match o.op with
 | .move _ | .assign _ | .pick _ _ _ | .load _ _ | .binOp _ _ _ _ _ | .unOp _ _ _ | .slice _ _ _ _ _ | .fieldAddr _ _ _ | .field _ _ _ | .indexAddr _ _ _ | .index _ _ _ | .extract _ _ | .build _ _ => true
 | .nilCheck _ => true
 | .call c => match c.callee with
   | .builtin .len => true
   | _ => false
 | _ => false
theorem v_run {P : Program} {s : Sem Value} {w w' : World} {n : Next} (h : (s >>= fun x => pure (Next.value x)).run P w = .ok n w') : ∃ u, n = .value u := by
 rw [Sem.run_bind] at h
 cases hs : s.run P w with
 | ok x w1 =>
   rw [hs, Result.andThen_ok, Sem.run_pure] at h
   cases h
   exact ⟨x, rfl⟩
 | halt x w1 => rw [hs] at h; cases h
theorem v_any {P : Program} {α : Type} {x : Sem α} {f : α → Sem Next} (hf : ∀ a w n w', (f a).run P w = .ok n w' → ∃ u, n = .value u) {w w' : World} {n : Next} (h : (x >>= f).run P w = .ok n w') : ∃ u, n = .value u := by
 rw [Sem.run_bind] at h
 cases hs : x.run P w with
 | ok a w1 => rw [hs, Result.andThen_ok] at h; exact hf _ _ _ _ h
 | halt a w1 => rw [hs] at h; cases h
theorem plain_run {P : Program} {o : Oper} {ρ : Operand → Value} {w w' : World} {n : Next} (hp : plainB o = true) (h : (execOp ρ o).run P w = .ok n w') : ∃ u, n = .value u := by
 unfold plainB at hp
 unfold execOp at h
 cases ho : o.op <;> rw [ho] at hp h <;> first | (cases hp; done) | skip
 all_goals dsimp only at h
 case call c =>
  dsimp only at hp
  cases hc : c.callee with
  | builtin b =>
    rw [hc] at hp
    cases b <;> first | (cases hp; done) | skip
    simp only [resolve, hc, Sem.run_bind, Sem.run_pure, Result.andThen_ok, invoke, builtin] at h
    cases hs : (Builtin.len_ c.argTypes o.type (Array.map ρ c.args)).run P w with
    | ok x w1 => rw [hs, Result.andThen_ok] at h; cases h; exact ⟨x, rfl⟩
    | halt x w1 => rw [hs] at h; cases h
  | value x => rw [hc] at hp; cases hp
  | _ => rw [hc] at hp; cases hp
 case move => rw [Sem.run_pure] at h; cases h; exact ⟨_, rfl⟩
 case assign => rw [Sem.run_pure] at h; cases h; exact ⟨_, rfl⟩
 case nilCheck x =>
  split at h
  any_goals (simp [runtimePanic] at h; done)
  any_goals (rw [Sem.run_pure] at h; cases h; exact ⟨_, rfl⟩)
  split at h
  ·simp [runtimePanic] at h
  ·refine v_any (fun b w2 n2 w2' h2 => ?_) h
   refine v_any (fun c w3 n3 w3' h3 => ?_) h2
   split at h3
   ·refine v_any (fun b w2 n2 w2' h2 => ?_) h3
    rw [Sem.run_pure] at h2; cases h2; exact ⟨_, rfl⟩
   ·rw [Sem.run_pure] at h3; cases h3; exact ⟨_, rfl⟩
  ·rw [Sem.run_pure] at h; cases h; exact ⟨_, rfl⟩
 case pick =>
  rw [Sem.run_bind] at h
  cases hs : (asBool _).run P w with
  | ok x w1 => rw [hs, Result.andThen_ok, Sem.run_pure] at h; cases h; exact ⟨_, rfl⟩
  | halt x w1 => rw [hs] at h; cases h
 all_goals exact v_run h
section
variable {P : Program} {ops : Array Oper} {Q : Exit → Act → World → Prop} {md : Region.Mode} {S : World → Prop}
structure WIn (S : World → Prop) where
 w : World
 h : S w
def CS (S : World → Prop) : World → Prop := fun w' => ∃ p : WIn S, w' = p.w
theorem CS.of {w : World} (h : S w) : CS S w := ⟨⟨w, h⟩, rfl⟩
theorem quiet_plain {o : Oper} {a : Act} {v : Value} {w : World} (hp : plainB o = true) (h : o.quietAt P a (CS S) w v) : (execOp a.eval o).run P w = .ok (.value v) w := by
 unfold Oper.quietAt at h
 cases hr : (execOp a.eval o).run P w with
 | halt x w' => rw [hr] at h; simp only [Oper.quietUpon] at h
 | ok n w' =>
   obtain ⟨u, rfl⟩ := plain_run hp hr
   rw [hr] at h
   simp only [Oper.quietUpon] at h
   obtain ⟨rfl, rfl⟩ := h
   rfl
def setN : Nat → Nat → Array Bool → Array Bool
 | 0, _, l => l
 | m + 1, k, l => setN m (k + 1) (l.setIfInBounds k true)
def plainAt (ops : Array Oper) (k : Nat) : Bool := match ops[k]? with
 | some o => plainB o
 | none => false
def headB (md : Region.Mode) (ops : Array Oper) : Nat → Nat → Array Bool → Bool
 | 0, _, _ => true
 | m + 1, k, l => (Region.ready md ops l).contains k && Region.free md ops l k && plainAt ops k && headB md ops m (k + 1) (l.setIfInBounds k true)
theorem head_walk (hs : Region.noSelect ops = true) (hQ : ∀ c a a' w, Q (.panic c) a w → Q (.panic c) a' w) {Lq : Act → Prop} {fuel : Nat} {w : World} (hS : S w) :
 ∀ (h : List Oper) (k : Nat) (l : Array Bool) (a : Act), (∀ j, j < h.length → h[j]? = ops[k + j]?) → headB md ops h.length k l = true → wpQuiet P ops (CS S) Lq h a →
   (∀ a', Lq a' → wpAnyH P md ops Q S fuel (setN h.length k l) a' w) → wpAnyH P md ops Q S (h.length + fuel) l a w
 | [], k, l, a, _, _, hw, hn => by rw [List.length_nil, Nat.zero_add]; exact hn a hw
 | o :: h, k, l, a, he, hB, hw, hn => by
   have h0 : ops[k]? = some o := by have := he 0 (by simp); simpa using this.symm
   simp only [List.length_cons, headB, Bool.and_eq_true] at hB
   obtain ⟨⟨⟨hr, hf⟩, hp⟩, hB'⟩ := hB
   have hpl : plainB o = true := by unfold plainAt at hp; rw [h0] at hp; exact hp
   have hq : ∃ v, YieldsIf P ops S o v a ∧ wpQuiet P ops (CS S) Lq h (a.put o.dst v) := by
    unfold wpQuiet at hw
    split at hw
    ·rename_i hwt
     obtain ⟨v, h1, h2⟩ := hw
     exact ⟨v, .inl ⟨hwt, fun w' hw' => quiet_plain hpl (h1 w' (CS.of hw'))⟩, h2⟩
    ·rename_i hwt
     exact ⟨undef, .inr ⟨by simpa using hwt, rfl⟩, hw⟩
   obtain ⟨v, hy, hw2⟩ := hq
   rw [List.length_cons, show h.length + 1 + fuel = (h.length + fuel) + 1 by omega]
   refine wpAnyH_take h0 hs hf hr (fun c a' w' hh => hQ c _ _ w' hh) hy hS ?_
   exact head_walk hs hQ hS h (k + 1) _ _ (fun j hj => by have := he (j + 1) (by simp; omega); simpa [Nat.add_assoc, Nat.add_comm 1 j] using this) hB' hw2 hn
theorem oper_wp_then {o : Oper} {a : Act} {w : World} {K K' : Act → World → Prop} (h : o.wp P a w K (Exit.then K' Q)) : o.wp P a w K Q := by
 unfold Oper.wp at *
 generalize (execOp a.eval o).run P w = r at *
 cases r with
 | ok n w' =>
   cases n <;> simp only [Oper.upon] at h ⊢ <;>
    first
     | exact h
     | exact Calls.mono h (fun e w'' he => by cases e <;> first | exact he | skip)
 | halt x w' => cases x <;> simp only [Oper.upon] at h ⊢ <;> exact h
theorem loud_walk {k : Nat} {o : Oper} {fuel : Nat} {l : Array Bool} {a : Act} {w : World} {Nx : Act → World → Prop} (h0 : ops[k]? = some o) (hr : Region.ready md ops l = [k]) (hS : S w)
 (hSu : Region.wanted o (yielded ops a.tmps) = true)
 (h : ∀ K : Act → World → Prop, (∀ a w, S w → Nx a w → K a w) → wpList P ops (Exit.then K Q) [o] a w) (hn : ∀ a w, S w → Nx a w → wpAnyH P md ops Q S fuel (l.setIfInBounds k true) a w) : wpAnyH P md ops Q S (fuel + 1) l a w := by
 refine wpAnyH_all hr (by simp) (fun i hi => ?_)
 obtain rfl : i = k := by simpa using hi
 have h1 := h (fun a w => S w ∧ wpAnyH P md ops Q S fuel (l.setIfInBounds i true) a w) (fun a w h2 h3 => ⟨h2, hn a w h2 h3⟩)
 unfold wpOp
 rw [h0]
 dsimp only
 rw [if_pos hSu]
 unfold wpList at h1
 rw [if_pos hSu] at h1
 rcases h1 with h1 | h1
 ·exact .inl (oper_wp_then h1)
 ·exact .inr h1
def segH (P : Program) (ops : Array Oper) (S : World → Prop) (Q : Exit → Act → World → Prop) : List Nat → List Oper → Act → World → Prop
 | [], l, a, w => wpQuiet P ops (fun w' => ∃ p : WIn S, w' = p.w) (fun a' => Q .normal a' w) l a
 | n :: ns, l, a, w => wpQuiet P ops (fun w' => ∃ p : WIn S, w' = p.w) (fun a' => ∀ K : Act → World → Prop, (∀ a w, S w → segH P ops S Q ns (l.drop (n + 1)) a w → K a w) → wpList P ops (Exit.then K Q) ((l.drop n).take 1) a' w) (l.take n) a
def loudAt (ops : Array Oper) (k : Nat) : Bool := match ops[k]? with
 | some o => o.guard.isNone
 | none => false
def segB (md : Region.Mode) (ops : Array Oper) : List Nat → Nat → Nat → Array Bool → Bool
 | [], m, k, l => headB md ops m k l && (Region.ready md ops (setN m k l)).isEmpty
 | n :: ns, m, k, l => decide (n < m) && headB md ops n k l && decide (Region.ready md ops (setN n k l) = [k + n]) && loudAt ops (k + n) && segB md ops ns (m - (n + 1)) (k + n + 1) ((setN n k l).setIfInBounds (k + n) true)
theorem seg_walk (hs : Region.noSelect ops = true) (hQ : ∀ c a a' w, Q (.panic c) a w → Q (.panic c) a' w) :
 ∀ (ns : List Nat) (l : List Oper) (k : Nat) (li : Array Bool) (a : Act) (w : World), (∀ j, l[j]? = ops[k + j]?) → segB md ops ns l.length k li = true → S w → segH P ops S Q ns l a w → wpAnyH P md ops Q S l.length li a w
 | [], l, k, li, a, w, he, hB, hS, h => by
   simp only [segB, Bool.and_eq_true] at hB
   unfold segH at h
   have := head_walk (fuel := 0) hs hQ hS l k li a (fun j _ => he j) hB.1 h (fun a' ha => wpAnyH_done (by simpa using hB.2) ha 0)
   simpa using this
 | n :: ns, l, k, li, a, w, he, hB, hS, h => by
   simp only [segB, Bool.and_eq_true, decide_eq_true_eq] at hB
   obtain ⟨⟨⟨⟨hn, hB1⟩, hr⟩, hl⟩, hB2⟩ := hB
   unfold segH at h
   have htl : (l.take n).length = n := by simp; omega
   have hdl : (l.drop (n + 1)).length = l.length - (n + 1) := by simp
   obtain ⟨o, ho⟩ : ∃ o, l[n]? = some o := ⟨_, List.getElem?_eq_getElem hn⟩
   have hok : ops[k + n]? = some o := by rw [← he n]; exact ho
   have hd : (l.drop n).take 1 = [o] := by
    rw [List.drop_eq_getElem_cons hn]
    have : l[n] = o := by rw [List.getElem?_eq_getElem hn] at ho; exact Option.some.inj ho
    simp [this]
   have hg : ∀ a' : Act, Region.wanted o (yielded ops a'.tmps) = true := fun a' => by
    unfold loudAt at hl
    rw [hok] at hl
    unfold Region.wanted
    have : o.guard = none := by simpa using hl
    rw [this]
   have key := head_walk (Lq := fun a' => ∀ K : Act → World → Prop, (∀ a w, S w → segH P ops S Q ns (l.drop (n + 1)) a w → K a w) → wpList P ops (Exit.then K Q) ((l.drop n).take 1) a' w) (fuel := (l.drop (n + 1)).length + 1) hs hQ hS (l.take n) k li a
    (fun j hj => by rw [htl] at hj; rw [List.getElem?_take, if_pos hj]; exact he j) (by rw [htl]; exact hB1) h (fun a' ha => by
      rw [htl]
      rw [hd] at ha
      refine loud_walk hok hr hS (hg a') ha (fun a2 w2 hS2 h2 => ?_)
      exact seg_walk hs hQ ns (l.drop (n + 1)) (k + n + 1) _ a2 w2 (fun j => by rw [List.getElem?_drop, he]; congr 1; omega) (by rw [hdl]; exact hB2) hS2 h2)
   rw [htl, hdl] at key
   rw [show l.length = n + (l.length - (n + 1) + 1) by omega]
   exact key
theorem oper_round {o : Oper} {a : Act} {w : World} {K : Act → World → Prop} {n r : Nat} (hd : ∀ c, o.op ≠ .defer c) (h : o.wp P a w K Q) : o.wpIn (Fence.wide.inRound r) n P a w K Q := by
 unfold Oper.wpIn
 refine ⟨fun _ _ => trivial, ?_⟩
 rw [Oper.semAt_eq _ _ _ hd]
 unfold Oper.wp at h
 generalize (execOp a.eval o).run P w = x at *
 cases x with
 | ok m w' =>
   cases m <;> simp only [Oper.upon] at h <;> simp only [Oper.uponIn]
   case value => exact h
   case skip => exact h
   case defer => exact h
   case enter f args =>
    refine ⟨(fun hh => by cases hh), CallsIn.inRound r ((callsIn_wide.2 h).mono fun e w'' he => ?_)⟩
    cases e <;> exact he
   case row row args =>
    exact ⟨(fun hh => by cases hh), fun c cs _ => let ⟨v, w', r, s⟩ := h c cs; ⟨v, w', r, stepsIn_wide.2 s⟩⟩
 | halt y w' => cases y <;> simp only [Oper.upon] at h <;> simp only [Oper.uponIn] <;> exact h
theorem any_round (hd : ∀ (i : Nat) (o : Oper), ops[i]? = some o → ∀ c, o.op ≠ .defer c) (hO : ∀ a w, ¬ Q .outgrown a w) {n r : Nat} :
 ∀ (fuel : Nat) (l : Array Bool) (a : Act) (w : World), wpAny P md ops Q fuel l a w → wpAnyIn (Fence.wide.inRound r) n P md ops Q fuel l a w
 | 0, l, a, w, h => h
 | fuel + 1, l, a, w, h => by
   refine ⟨h.1, fun i hi => ?_⟩
   have h2 := h.2 i hi
   unfold wpOp at h2
   unfold wpOpIn
   split
   ·rename_i ho; rw [ho] at h2; exact any_round hd hO fuel _ _ _ h2
   ·rename_i o ho
    rw [ho] at h2
    dsimp only at h2
    split
    ·rename_i hw
     rw [if_pos hw] at h2
     rcases h2 with h2 | ⟨_, a', w', h3⟩
     ·exact oper_round (hd i o ho) (Oper.wp_mono (fun a w hk => any_round hd hO fuel _ _ _ hk) h2)
     ·exact absurd h3 (hO a' w')
    ·rename_i hw
     rw [if_neg hw] at h2
     exact ⟨fun _ _ => trivial, any_round hd hO fuel _ _ _ h2⟩
def nop (o : Oper) : Oper := { o with op := .move (.const undef), dst := none }
def nopLast : List Oper → List Oper
 | [] => []
 | [o] => [nop o]
 | o :: p :: l => o :: nopLast (p :: l)
def lastOf : List Oper → List Oper
 | [] => []
 | [o] => [o]
 | _ :: p :: l => lastOf (p :: l)
theorem last_split : ∀ (l : List Oper), l ≠ [] → ∃ h o, l = h ++ [o] ∧ nopLast l = h ++ [nop o] ∧ lastOf l = [o]
 | [], h => absurd rfl h
 | [o], _ => ⟨[], o, rfl, rfl, rfl⟩
 | o :: p :: l, _ => by
   obtain ⟨h, q, e1, e2, e3⟩ := last_split (p :: l) (by simp)
   exact ⟨o :: h, q, by rw [List.cons_append, ← e1], by rw [nopLast, e2]; rfl, by rw [lastOf, e3]⟩
theorem nop_get (h : List Oper) (o : Oper) (i : Nat) : (h ++ [nop o]).toArray[i]? = if i = h.length then some (nop o) else (h ++ [o]).toArray[i]? := by
 by_cases e : i = h.length
 ·subst e; simp
 ·rw [if_neg e]
  simp only [List.getElem?_toArray]
  rcases Nat.lt_or_ge i h.length with hl | hl
  ·rw [List.getElem?_append_left hl, List.getElem?_append_left hl]
  ·rw [List.getElem?_eq_none (by simp; omega), List.getElem?_eq_none (by simp; omega)]
theorem nop_ready (h : List Oper) (o : Oper) (L : Array Bool) : Region.ready md (h ++ [nop o]).toArray L = Region.ready md (h ++ [o]).toArray L := by
 unfold Region.ready
 rw [show (h ++ [nop o]).toArray.size = (h ++ [o]).toArray.size by simp]
 refine List.filter_congr fun i hi => ?_
 rw [nop_get]
 by_cases e : i = h.length
 ·subst e
  rw [if_pos rfl]
  simp only [List.getElem?_toArray, List.getElem?_concat_length]
  rfl
 ·rw [if_neg e]
theorem nop_yielded (h : List Oper) (o : Oper) (ho : o.dst = none) (tmps : Array Value) : yielded (h ++ [nop o]).toArray tmps = yielded (h ++ [o]).toArray tmps := by
 funext i
 unfold yielded
 rw [nop_get]
 by_cases e : i = h.length
 ·subst e
  rw [if_pos rfl]
  simp only [List.getElem?_toArray, List.getElem?_concat_length, Option.bind_some, ho]
  rfl
 ·rw [if_neg e]
theorem nop_asks (o : Oper) (a : Act) (w : World) : ¬ (nop o).asks P a w := by
 unfold Oper.asks
 intro h
 exact absurd (show noRoomEvent ∈ (#[] : Array Event) from h.1) (by simp)
def noDefer (l : List Oper) : Bool := l.all fun o => match o.op with | .defer _ => false | _ => true
theorem noDefer_spec {l : List Oper} (h : noDefer l = true) (i : Nat) (o : Oper) (ho : l.toArray[i]? = some o) : ∀ c, o.op ≠ .defer c := by
 intro c hc
 have := List.all_eq_true.1 h o (List.mem_of_getElem? (by simpa using ho))
 rw [hc] at this
 cases this
theorem wp_region_seg {id : Nat} {a : Act} {w : World} {l : List Oper} (S : World → Prop) (ns : List Nat) (hm : P.follows .mixedOrders = true) (hB : (Region.noSelect l.toArray && segB .any l.toArray ns l.length 0 (Array.replicate l.length false)) = true)
 (hS : S w.drew) (h : segH P l.toArray S (NoPanic Q) ns l a w.drew) : (Code.region id l.toArray true).wp P Q a w := by
 rw [Bool.and_eq_true] at hB
 refine wp_region_noPanic (wp_region_any hm (wpAny_of_held _ _ _ _ (?_ : wpAnyH P .any l.toArray (NoPanic Q) S _ _ a w.drew)))
 have := seg_walk (md := .any) hB.1 (fun _ _ _ _ h => h) ns l 0 _ a w.drew (fun j => by simp) hB.2 hS h
 simpa using this
end
end
section
open Go.RowKit Go.Proofs Go.Shelf
attribute [local go_sem] Oper.semAt_some
theorem own_mono {w : World} {base base' e size n : Nat} {v : Value} {xs : List Value} (h : w.ownsRow base e size v n xs) (hb : base' ≤ base) : w.ownsRow base' e size v n xs :=
 ⟨h.1, h.2.imp id fun ⟨g, cap, cur, h1, h2, h3⟩ => ⟨g, cap, cur, h1, Nat.le_trans hb h2, h3⟩⟩
section
variable {W W' : World} {m F P : Nat} {line text : ByteArray} {wa : Option Addr} {wc : Nat} {e : Bool} {wd tab : Int} {wideA : Bool} {want : Int} {join raw : Bool}
end
theorem two_alloc (w : World) (o1 o2 : Obj) : ((w.alloc o1).alloc o2).heap[w.heap.size]? = some o1 ∧ ((w.alloc o1).alloc o2).heap[w.heap.size + 1]? = some o2 ∧ Below w.heap.size w ((w.alloc o1).alloc o2) := by
 refine ⟨?_, ?_, ((Below.refl _ _).alloc (Nat.le_refl _) _).alloc (by simp) _⟩
 ·have h1 := World.alloc_heap_new w o1
  have h2 := ((Below.refl (w.alloc o1).heap.size (w.alloc o1)).alloc (Nat.le_refl _) o2).block w.heap.size (by rw [World.size_alloc]; omega)
  exact h2.trans h1
 ·have h1 := World.alloc_heap_new (w.alloc o1) o2
  rw [World.size_alloc] at h1
  exact h1
theorem box_kept {A B : World} {b t : Nat} {v : Value} (h : Boxed A b t v) {row : Option Nat} (hg : A.grownBy B row) (hrow : ∀ k, row = some k → ∃ o, A.heap[k]? = some o ∧ o.isCells = false) : Boxed B b t v :=
 h.kept hg (fun e => by
  obtain ⟨o, ho, hc⟩ := hrow _ e.symm
  rw [show A.heap[_]? = _ from h] at ho
  cases ho; cases hc)
end
end Go.Proofs.YtlbclfmbejjneaaGreatDoor
