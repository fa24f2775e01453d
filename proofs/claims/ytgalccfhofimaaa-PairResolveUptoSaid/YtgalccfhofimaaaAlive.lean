/- Contracts of the laws' helpers of layer 9: letter, kinds, brackets, resolves, alive: the head 'alive' answers true. -/
import Derived.Test.YtgalccfhofimaaaResolve
namespace Go.Proofs.Ytgalccfhofimaaa
open Go.RowKit
set_option linter.unusedVariables false
set_option linter.unusedSimpArgs false

def letterI (k : Int) : Int := if k = 0 then 76 else if k = 1 then 82 else if k = 3 then 69 else if k = 6 then 65 else 63

set_option maxHeartbeats 400000 in
theorem letter_any (k : Int) (w : World) :
    Calls Try.prog 41 #[.int .i8 k] w fun e w' => e = .returned (.int .u8 (letterI k)) ∧ w = w' := by
  go_enter Try.func41, Try.ntmps41
  go_wp2
  all_goals (go_ret; simp_all [letterI])

theorem own_keep {w w' : World} {base e size n : Nat} {v : Value} {xs : List Value} (h : w.ownsRow base e size v n xs) (hb : Below w.heap.size w w') : w'.ownsRow base e size v n xs :=
  h.kept (row := none) ⟨hb.os, hb.tape, hb.output, hb.size, fun q hq _ => hb.block q hq⟩ (by cases v.ownBlock <;> simp)

set_option maxHeartbeats 1000000 in
theorem kinds_any (ra : Option Addr) (rs : List Int) (rc : Nat) (w : World) (hr : Rd .i32 w ra rs) (hrn : rs.length ≤ 2097152) :
    Calls Try.prog 40 #[.slice ra rs.length rc] w fun e w' => ∃ v, e = .returned v ∧ w'.ownsRow w.heap.size 33 1 v rs.length ((rs.map dirI).map (Value.int .i8)) ∧ Below w.heap.size w w' := by
  obtain ⟨i33, hi33, hz33, ha33, hb33⟩ := info_parts (Try.info_kind)
  go_enter Try.func40, Try.ntmps40
  go_wp2_with (fail)
  go_loopw [3, 4] (fun v c wr => ∃ i : Nat, i ≤ rs.length ∧ c = .int .i64 i ∧ wr.ownsRow w.heap.size 33 1 v i (((rs.take i).map dirI).map (Value.int .i8)) ∧ Below w.heap.size w wr) (fun _ c _ => rs.length - (intOf c).toNat)
  case atStart => exact ⟨0, by omega, rfl, World.ownsRow_nil _ _ _ _, Below.refl _ _⟩
  case round =>
    rename_i v _
    obtain ⟨i, hi, rfl, hown, hbel⟩ := hrel
    by_cases hlt : i < rs.length
    · obtain ⟨rb, ro, rfl, hrb, hrc⟩ := hr.at hbel i hlt
      have hsn : ((rs.take (i + 1)).map dirI).map (Value.int .i8) = ((rs.take i).map dirI).map (Value.int .i8) ++ [.int .i8 (dirI (ith rs i))] := by
        have e : rs[i] = ith rs i := by rw [ith, List.getD_eq_getElem?_getD, List.getElem?_eq_getElem hlt]; rfl
        rw [List.take_succ_eq_append_getElem hlt, e, List.map_append, List.map_append]
        simp only [List.map_cons, List.map_nil]
      have HSN := Lib.hid hsn
      clear hsn
      generalize hx : ith rs i = x at hrc HSN
      have HX := Lib.hid hx
      clear hx
      go_wp2_with (first | (go_at_call 29; refine (Dir_any _ _).mono ?_; rintro e w1 ⟨rfl, hb1⟩; have hown1 := own_keep hown hb1; have hbel1 := hbel.trans (hb1.mono hbel.size)) | (at_builtin; refine wpList_append_own _ rfl (.tmp 11) (.tmp 17) 23 rfl w.heap.size 33 i33 (.int .i8 0) 1 1 Try.underlying23 hi33 hz33 ha33 hb33 rfl (by decide) _ i _ rfl (hown1.alloc _) ⟨w1.heap.size, 0, none⟩ 1 1 [.int .i8 (dirI x)] rfl rfl (cell_one_new _ _ _) (by simp [Value.oneCell']) (by unfold maxLen; omega) (by omega) (by have := hbel1.size; simp; omega) ?_; intro v2 w2 hown2 hg2 _))
      have hb2 := (hbel1.alloc hbel1.size _).grown hg2 (by have := hbel1.size; simp; omega) (fun k hk => (hown1.lt k hk).1)
      clear hg2 hown1 hown hb1
      go_roundw
      case rel => exact ⟨i + 1, by omega, by go_num, by rw [HSN.out]; exact hown2, hb2⟩
      case measure => simp [intOf]; omega
    · have hie : i = rs.length := by omega
      have HIE := Lib.hid hie
      clear hie
      go_wp2_with (fail)
      go_ret
      have h := HIE.out
      subst h
      rw [List.take_length] at hown
      exact ⟨_, rfl, hown, hbel⟩

theorem quiet_add_same {P : Program} {f : FuncId} {args : Array Value} {w : World} {a n : Nat} {v : Value}
    (h : Calls P f args (w.drewN (a + n)) fun e w' => e = .returned v ∧ w' = w.drewN (a + n)) :
    Calls P f args (w.drewN (a + n)) fun e w'' => e = .returned v ∧ ∃ m, w'' = w.drewN (a + m) :=
  h.mono fun _ _ ⟨he, hm⟩ => ⟨he, n, hm⟩
theorem letter_q (k : Int) (w : World) : Calls Try.prog 41 #[.int .i8 k] w fun e w' => e = .returned (.int .u8 (letterI k)) ∧ w' = w :=
  (letter_any k w).mono fun e w' h => ⟨h.1, h.2.symm⟩

/-- a string made into characters -/
theorem conv_runes (s : ByteArray) (rs : List Int) (hs : Conv.runesFrom s s.size 0 #[] = (rs.map (Value.int .i32)).toArray) (hn : rs.length ≤ 2097152) :
    ∃ (C : World → Nat) (F : World → World), (∀ w, (convert 9 22 (.string s)).run Try.prog w = .ok (.slice (some ⟨w.heap.size, 0, none⟩) rs.length (C w)) (F w)) ∧
      ∀ w, Below w.heap.size w (F w) ∧ Rd .i32 (F w) (some ⟨w.heap.size, 0, none⟩) rs ∧ rs.length ≤ C w := by
  have hsz : (Conv.runesFrom s s.size 0 #[]).size = rs.length := by rw [hs]; simp
  refine ⟨fun w => grownCap w rs.length 0 21, fun w => w.drew.alloc (.cells (Conv.runesFrom s s.size 0 #[] ++ Array.replicate (grownCap w rs.length 0 21 - rs.length) (.int .i32 0)) 21), fun w => ?_, fun w => ⟨?_, ?_, ?_⟩⟩
  · have := run_runes_of_string (P := Try.prog) w 9 22 21 s Try.underlying9 Try.underlying22 Try.underlying21 (by rw [hsz]; omega)
    rw [this, hsz]
  · exact (Below.refl _ _).drew.alloc (Nat.le_refl _) _
  · by_cases h0 : rs = []
    · exact .inl h0
    · refine .inr ⟨w.heap.size, 0, rfl, by rw [World.size_alloc]; exact Nat.lt_succ_self _, fun i hi => ?_⟩
      rw [Nat.zero_add, World.cell?]
      have := heap_alloc_new w.drew (.cells (Conv.runesFrom s s.size 0 #[] ++ Array.replicate (grownCap w rs.length 0 21 - rs.length) (.int .i32 0)) 21)
      show (match (w.drew.alloc _).heap[w.drew.heap.size]? with | some (.cells c _ _) => if (none : Option Nat).isSome then none else c[i]? | _ => none) = _
      rw [this, hs]
      show ((List.map (Value.int .i32) rs).toArray ++ Array.replicate (grownCap w rs.length 0 21 - rs.length) (Value.int .i32 0))[i]? = _
      rw [Array.getElem?_append_left (by simpa using hi)]
      simp [ith_get hi]
  · exact grownCap_ge w rs.length 0 21

theorem Resolve_len (ra ka : Option Addr) (rs ks : List Int) (nr nk rc kc : Nat) (level : Nat) (sos eos : Int) (w : World) (hnr : rs.length = nr) (hnk : ks.length = nk) (hr : Rd .i32 w ra rs) (hk : Rd .i8 w ka ks) (hrn : nr ≤ 2097152) (hkn : nk ≤ 2097152)
    (hrc : nr ≤ rc) (hkc : nk ≤ kc) (hl : level < 256) :
    Calls Try.prog 14 #[.slice ra nr rc, .slice ka nk kc, .int .u8 level, .int .i8 sos, .int .i8 eos] w (ResPost rs ks level sos eos w) := by
  subst hnr hnk
  exact Resolve_any ra ka rs ks rc kc level sos eos w hr hk hrn hkn hrc hkc hl
theorem out_cap {k : IntKind} {e base cap n : Nat} {w : World} {ao : Option Addr} {out : List Int} (h : OutAt k e w base ao cap out) (hn : out.length = n) : n ≤ cap := by
  subst hn
  by_cases h0 : out.length = 0
  · omega
  · exact (h.at 0 (by omega)).choose_spec.2.2.2.2.2.1
theorem res_shape {rs ks ans : List Int} {level sos eos : Int} {l : List (Nat × Nat)} {w : World} {base : Nat} {v : Value}
    (hrl : (resolveF rs ks level sos eos l).length = min rs.length ks.length) (hown : w.ownsRow base 33 1 v (min rs.length ks.length) ((resolveF rs ks level sos eos l).map (Value.int .i8))) (hans : resolveF rs ks level sos eos l = ans) (hk : ks.length = rs.length) :
    ∃ ao cap, v = .slice ao rs.length cap ∧ OutAt .i8 33 w base ao cap ans ∧ ans.length = rs.length := by
  rw [hk, Nat.min_self, hans] at hrl hown
  obtain ⟨ao, cap, h1, h2⟩ := OutAt.of hown hrl
  exact ⟨ao, cap, h1, h2, hrl⟩

set_option maxHeartbeats 1000000 in
theorem resolves_true (s want : ByteArray) (rs ans : List Int) (level : Nat) (sos eos : Int) (w : World) (hs : Conv.runesFrom s s.size 0 #[] = (rs.map (Value.int .i32)).toArray) (hn : rs.length ≤ 1000) (hl : level < 256)
    (hans : ∀ l : List (Nat × Nat), l.Perm (brkF (rs.take (min rs.length (rs.map dirI).length)) (alF (min rs.length (rs.map dirI).length) 0 ((rs.map dirI).take (min rs.length (rs.map dirI).length))) (min rs.length (rs.map dirI).length) 0 [] []) →
      l.Pairwise (fun a b => a.1 ≤ b.1) → resolveF rs (rs.map dirI) level sos eos l = ans)
    (hw : want.size = rs.length) (hwant : ∀ i (h : i < want.size), ((want[i]'h).toNat : Int) = letterI (ith ans i)) :
    Calls Try.prog 25 #[.string s, .int .u8 level, .int .i8 sos, .int .i8 eos, .string want] w fun e w' => e = .returned (.bool true) ∧ Below w.heap.size w w' := by
  obtain ⟨C, F, hconv, hF⟩ := conv_runes s rs hs (by omega)
  have HF := Lib.hid hF
  have HANS := Lib.hid hans
  have HW := Lib.hid hw
  have HWANT := Lib.hid hwant
  clear hF hans hw hwant hs
  have hlk : (rs.map dirI).length = rs.length := by simp
  have HLK := Lib.hid hlk
  clear hlk
  go_enter Try.func25, Try.ntmps25
  obtain ⟨hb1, hrd1, hC1⟩ := HF.out w
  have hw1 := HW.out
  go_wp2_with (first | (go_at_call 40; refine (kinds_any _ rs _ _ hrd1 (by omega)).mono ?_; rintro e w2 ⟨kv, rfl, hkown, hb2⟩; obtain ⟨ka, kc, rfl, hK⟩ := OutAt.of hkown HLK.out; have hkc := out_cap hK HLK.out) | (go_at_call 14; refine (Resolve_len _ _ rs (rs.map dirI) _ _ _ _ level sos eos _ rfl HLK.out (hrd1.below hb2) hK.rd (by omega) (by omega) (by omega) (by exact hkc) hl).mono ?_; rintro e w3 ⟨v3, l, hperm, hsort, rfl, hrl, hrown, hb3⟩; have hans := HANS.out l hperm hsort; have hres := res_shape hrl hrown hans HLK.out; obtain ⟨oa, oc, rfl, hO, hol⟩ := hres; clear hperm hsort hrl hrown hans))
  have hb4 := (hb1.trans (hb2.mono hb1.size)).trans (hb3.mono (by have := hb1.size; have := hb2.size; omega))
  clear hb1 hb2 hb3 hK hrd1 hconv hC1 hkc
  have HOL := Lib.hid hol
  clear hol
  go_loopw [13] (fun c wx => ∃ (i nq : Nat), i ≤ rs.length ∧ c = .int .i64 i ∧ wx = w3.drewN nq) (fun c _ => rs.length - (intOf c).toNat)
  case atStart => exact ⟨0, 0, by omega, rfl, rfl⟩
  case round =>
    obtain ⟨i, nq, hi, rfl, rfl⟩ := hrel
    by_cases hlt : i < rs.length
    · obtain ⟨G, hG, hGb, hGl, hGc, hGf, hcap, hcm⟩ := hO.at i (by have := HOL.out; omega)
      subst hG
      have hch := HWANT.out i (by have := HW.out; omega)
      generalize hy : ith ans i = y at hGc hch
      have hne : (letterI y != ((want[i]'(by have := HW.out; omega)).toNat : Int)) = false := by rw [← hch]; simp
      have HCH := Lib.hid hch
      have HY := Lib.hid hy
      clear hch hy
      have g0 : (0 : Int) ≤ (i : Int) := by omega
      have g1 : (i : Int) < (rs.length : Int) := by omega
      have g2 : i < want.size := by have := HW.out; omega
      go_wp2_with (fail)
      go_quiet ((go_at_call 41; exact quiet_add_same (letter_q _ _)))
      go_wp2_with (fail)
      go_roundw
      case rel => exact ⟨i + 1, _, by omega, by go_num, rfl⟩
      case measure => simp [intOf]; omega
    · go_wp2_with (fail)
      go_ret
      exact ⟨rfl, bl_drewN hb4 _⟩

set_option maxHeartbeats 1000000 in
theorem brackets_one (s : ByteArray) (rs : List Int) (p q wb wc : Nat) (w : World) (hs : Conv.runesFrom s s.size 0 #[] = (rs.map (Value.int .i32)).toArray) (hn : rs.length ≤ 1000)
    (hans : ∀ l : List (Nat × Nat), l.Perm (brkF rs (rs.map dirI) (min rs.length (rs.map dirI).length) 0 [] []) → l = [(p, q)]) (hwb : wb < w.heap.size)
    (hw0 : w.cell? ⟨wb, 0, none⟩ = some (.int .i64 p)) (hw1 : w.cell? ⟨wb, 1, none⟩ = some (.int .i64 q)) :
    Calls Try.prog 24 #[.string s, .slice (some ⟨wb, 0, none⟩) 2 wc] w fun e w' => e = .returned (.bool true) ∧ Below w.heap.size w w' := by
  obtain ⟨C, F, hconv, hF⟩ := conv_runes s rs hs (by omega)
  have HF := Lib.hid hF
  have HANS := Lib.hid hans
  clear hF hans hs
  have hlk : (rs.map dirI).length = rs.length := by simp
  have HLK := Lib.hid hlk
  clear hlk
  go_enter Try.func24, Try.ntmps24
  obtain ⟨hb1, hrd1, hC1⟩ := HF.out w
  go_wp2_with (first | (go_at_call 40; refine (kinds_any _ rs _ _ hrd1 (by omega)).mono ?_; rintro e w2 ⟨kv, rfl, hkown, hb2⟩; obtain ⟨ka, kc, rfl, hK⟩ := OutAt.of hkown HLK.out) | (go_at_call 9; refine (Brackets_len _ _ rs (rs.map dirI) _ _ _ _ _ rfl HLK.out (hrd1.below hb2) hK.rd (by omega) (by omega)).mono ?_; rintro e w3 ⟨v3, l, hperm, hsort, rfl, hpown, hb3⟩; have hans := HANS.out l hperm; subst hans; obtain ⟨pa, pc, rfl, hP⟩ := PairsAt.of hpown; clear hperm hsort hpown))
  have hb4 := (hb1.trans (hb2.mono hb1.size)).trans (hb3.mono (by have := hb1.size; have := hb2.size; omega))
  clear hb1 hb2 hb3 hK hrd1 hconv hC1
  obtain ⟨PB, hPB, _, _, hc0, hc1⟩ := hP.at 0 (by simp)
  subst hPB
  have hv0 : w3.cell? ⟨wb, 0, none⟩ = some (.int .i64 p) := cell_bl hb4 hwb hw0
  have hv1 : w3.cell? ⟨wb, 1, none⟩ = some (.int .i64 q) := cell_bl hb4 hwb hw1
  have hc0' : w3.cell? ⟨PB, 0, none⟩ = some (.int .i64 p) := hc0
  have hc1' : w3.cell? ⟨PB, 1, none⟩ = some (.int .i64 q) := hc1
  clear hc0 hc1 hP hw0 hw1
  go_loopw [7] (fun c wx => ∃ (nq : Nat), (c = .int .i64 0 ∨ c = .int .i64 1) ∧ wx = w3.drewN nq) (fun c _ => 1 - (intOf c).toNat)
  case atStart => exact ⟨0, .inl rfl, rfl⟩
  case round =>
    obtain ⟨nq, hc, rfl⟩ := hrel
    rcases hc with rfl | rfl
    · go_wp2_with (fail)
      go_quiet (fail)
      go_wp2_with (fail)
      go_roundw
      case rel => exact ⟨_, .inr rfl, rfl⟩
      case measure => simp [intOf]
    · go_wp2_with (fail)
      go_ret
      exact ⟨rfl, bl_drewN hb4 _⟩

theorem perm_one {α : Type} {l m : List α} {x : α} (h : l.Perm m) (hm : m = [x]) : l = [x] := by subst hm; exact List.perm_singleton.1 h
theorem perm_none {α : Type} {l m : List α} (h : l.Perm m) (hm : m = []) : l = [] := by subst hm; exact List.perm_nil.1 h

theorem alive1 (wb : Nat) (w : World) (hwb : wb < w.heap.size) (hw0 : w.cell? ⟨wb, 0, none⟩ = some (.int .i64 1)) (hw1 : w.cell? ⟨wb, 1, none⟩ = some (.int .i64 3)) :
    Calls Try.prog 24 #[.string ⟨#[97, 40, 98, 41, 99]⟩, .slice (some ⟨wb, 0, none⟩) 2 2] w fun e w' => e = .returned (.bool true) ∧ Below w.heap.size w w' :=
  brackets_one ⟨#[97, 40, 98, 41, 99]⟩ [97, 40, 98, 41, 99] 1 3 wb 2 w (by as_aux_lemma => kernel_rfl) (by decide) (fun l h => perm_one h (by as_aux_lemma => kernel_rfl)) hwb hw0 hw1
theorem alive2 (w : World) : Calls Try.prog 25 #[.string ⟨#[97, 40, 215, 144, 41, 98]⟩, .int .u8 0, .int .i8 0, .int .i8 0, .string ⟨#[76, 76, 82, 76, 76]⟩] w fun e w' => e = .returned (.bool true) ∧ Below w.heap.size w w' :=
  resolves_true ⟨#[97, 40, 215, 144, 41, 98]⟩ ⟨#[76, 76, 82, 76, 76]⟩ [97, 40, 1488, 41, 98] [0, 0, 1, 0, 0] 0 0 0 w (by as_aux_lemma => kernel_rfl) (by decide) (by decide)
    (fun l h _ => by rw [perm_one (x := (1, 3)) h (by as_aux_lemma => kernel_rfl)]; as_aux_lemma => kernel_rfl) (by decide) (by decide)
theorem alive3 (w : World) : Calls Try.prog 25 #[.string ⟨#[215, 144, 32, 98]⟩, .int .u8 1, .int .i8 1, .int .i8 1, .string ⟨#[82, 82, 76]⟩] w fun e w' => e = .returned (.bool true) ∧ Below w.heap.size w w' :=
  resolves_true ⟨#[215, 144, 32, 98]⟩ ⟨#[82, 82, 76]⟩ [1488, 32, 98] [1, 1, 0] 1 1 1 w (by as_aux_lemma => kernel_rfl) (by decide) (by decide)
    (fun l h _ => by rw [perm_none h (by as_aux_lemma => kernel_rfl)]; as_aux_lemma => kernel_rfl) (by decide) (by decide)
theorem alive4 (w : World) : Calls Try.prog 25 #[.string ⟨#[32]⟩, .int .u8 0, .int .i8 1, .int .i8 1, .string ⟨#[82]⟩] w fun e w' => e = .returned (.bool true) ∧ Below w.heap.size w w' :=
  resolves_true ⟨#[32]⟩ ⟨#[82]⟩ [32] [1] 0 1 1 w (by as_aux_lemma => kernel_rfl) (by decide) (by decide)
    (fun l h _ => by rw [perm_none h (by as_aux_lemma => kernel_rfl)]; as_aux_lemma => kernel_rfl) (by decide) (by decide)

set_option maxHeartbeats 1000000 in
theorem alive_any (w : World) : Calls Try.prog 13 #[] w fun e w' => e = .returned (.bool true) ∧ Below w.heap.size w w' := by
  go_enter Try.func13, Try.ntmps13
  go_wp2_with (fail)
  refine (alive1 w.heap.size _ (by simp) (by simp) (by simp)).mono ?_
  rintro e w1 ⟨rfl, hb1⟩
  have hb1' := ((Below.refl w.heap.size w).alloc (Nat.le_refl _) (.cells #[.int .i64 1, .int .i64 3] 3)).trans (hb1.mono (by simp))
  clear hb1
  go_wp2_with (fail)
  refine (alive2 _).mono ?_
  rintro e w2 ⟨rfl, hb2⟩
  have hb2' := hb1'.trans (hb2.mono hb1'.size)
  clear hb2 hb1'
  go_wp2_with (fail)
  refine (alive3 _).mono ?_
  rintro e w3 ⟨rfl, hb3⟩
  have hb3' := hb2'.trans (hb3.mono hb2'.size)
  clear hb3 hb2'
  go_wp2_with (fail)
  refine (alive4 _).mono ?_
  rintro e w4 ⟨rfl, hb4⟩
  have hb4' := hb3'.trans (hb4.mono hb3'.size)
  clear hb4 hb3'
  go_wp2_with (fail)
  go_ret
  exact ⟨rfl, hb4'⟩
end Go.Proofs.Ytgalccfhofimaaa
