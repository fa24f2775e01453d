/- Contract of the document's answer for brackets (shuttleref09.Brackets): the same pairs as pair.Brackets finds, by rising places. -/
import Derived.Test.YtgalccfhofimaaaBrackets
import Derived.Test.YtgalccfhofimaaaRefBr
namespace Go.Proofs.Ytgalccfhofimaaa
set_option linter.unusedVariables false
set_option linter.unusedSimpArgs false
open Go.RowKit

/-- the outer loop's relation -/
def RbRel (rs ks : List Int) (M : Nat) (w : World) (s o c : Value) (wr : World) : Prop :=
  ∃ (i m : Nat) (st : List (Nat × Int)) (out out0 : List (Nat × Nat)), i + m = M ∧ c = .int .i64 i ∧ st.length ≤ 63 ∧ out.length ≤ i ∧
    wr.ownsRow w.heap.size 49 2 s st.length (st.flatMap ocell) ∧ wr.ownsRow w.heap.size 29 2 o out.length (out.flatMap pcell) ∧ (∀ k, s.ownBlock = some k → o.ownBlock ≠ some k) ∧
    out.Pairwise (fun a b => a.1 ≤ b.1) ∧ out.Perm out0 ∧ Below w.heap.size w wr ∧ brkF rs ks m i st out0 = brkF rs ks M 0 [] []

theorem ownsRow_keep {w w' : World} {base e size n : Nat} {v : Value} {xs : List Value} (h : w.ownsRow base e size v n xs) (hb : Below w.heap.size w w') : w'.ownsRow base e size v n xs :=
  h.kept (row := none) ⟨hb.os, hb.tape, hb.output, hb.size, fun q hq _ => hb.block q hq⟩ (by cases v.ownBlock <;> simp)
theorem own_slice {w : World} {base e size n : Nat} {v : Value} {xs : List Value} (h : w.ownsRow base e size v n xs) : ∃ a cap, v = .slice a n cap ∧ n ≤ cap ∧ cap ≤ maxLen := by
  rcases h.2 with ⟨h1, h0⟩ | ⟨g, cap, cur, h1, hb, hh, hc, hm, hs, ht⟩
  · exact ⟨none, 0, by rw [h1, h0], by omega, by unfold maxLen; omega⟩
  · exact ⟨_, cap, h1, hc, hm⟩
theorem own_cells {w : World} {base e size n cap : Nat} {a : Option Addr} {xs : List Value} (h : w.ownsRow base e size (.slice a n cap) n xs) (hn : 0 < n) :
    ∃ G, a = some ⟨G, 0, none⟩ ∧ base ≤ G ∧ G < w.heap.size ∧ ∀ j, j < n * size → w.cell? ⟨G, j, none⟩ = xs[j]? := by
  have h' := h
  rcases h.2 with ⟨h1, h0⟩ | ⟨g, cap', cur, h1, hb, hh, hc, hm, hs, ht⟩
  · omega
  · simp only [Value.slice.injEq] at h1
    obtain ⟨rfl, _, rfl⟩ := h1
    exact ⟨g, rfl, hb, (Array.getElem?_eq_some_iff.1 hh).1, fun j hj => World.ownsRow.cellAt h' j hj⟩
theorem rb_push {w w5 w6 : World} {ob : Obj} {s v' o : Value} {st : List (Nat × Int)} {x : Nat × Int} {out : List (Nat × Nat)} {t te : Nat}
    (hown6 : w6.ownsRow w.heap.size t 2 v' (st.length + 1) (st.flatMap ocell ++ [.int .i64 x.1, .int .i32 x.2])) (hg6 : (w5.alloc ob).grownBy w6 s.ownBlock)
    (hloc : v'.ownBlock = s.ownBlock ∨ v'.ownBlock = some (w5.alloc ob).heap.size) (hs : w5.ownsRow w.heap.size t 2 s st.length (st.flatMap ocell))
    (ho : w5.ownsRow w.heap.size te 2 o out.length (out.flatMap pcell)) (hdis : ∀ k, s.ownBlock = some k → o.ownBlock ≠ some k) (hbel : Below w.heap.size w w5) :
    w6.ownsRow w.heap.size t 2 v' (st ++ [x]).length ((st ++ [x]).flatMap ocell) ∧ w6.ownsRow w.heap.size te 2 o out.length (out.flatMap pcell) ∧ (∀ k, v'.ownBlock = some k → o.ownBlock ≠ some k) ∧ Below w.heap.size w w6 := by
  have hsz := hbel.size
  refine ⟨by simpa [List.flatMap_append, ocell] using hown6, ?_, fun k hk e => ?_, (hbel.alloc hsz ob).grown hg6 (by simp; omega) (fun k hk => (hs.lt k hk).1)⟩
  · refine (ho.alloc ob).kept hg6 ?_
    cases hv : o.ownBlock with
    | none => exact .inl rfl
    | some k => exact .inr (fun e => hdis k e.symm hv)
  · rcases hloc with h | h
    · exact hdis k (h ▸ hk) e
    · have := (ho.lt k e).2
      rw [hk, World.size_alloc] at h
      cases h
      omega
theorem rb_close {w w5 w7 : World} {a : Option Addr} {cap qn : Nat} {st : List (Nat × Int)} {v : Value} {l : List (Nat × Nat)} {t te : Nat} (hq : qn < st.length)
    (hs : w5.ownsRow w.heap.size t 2 (.slice a st.length cap) st.length (st.flatMap ocell)) (hown7 : w7.ownsRow w5.heap.size te 2 v l.length (l.flatMap pcell)) (hb7 : Below w5.heap.size w5 w7) (hbel : Below w.heap.size w w5) :
    w7.ownsRow w.heap.size t 2 (.slice a qn cap) (st.take qn).length ((st.take qn).flatMap ocell) ∧ w7.ownsRow w.heap.size te 2 v l.length (l.flatMap pcell) ∧ (∀ k, (Value.slice a qn cap).ownBlock = some k → v.ownBlock ≠ some k) ∧ Below w.heap.size w w7 := by
  refine ⟨?_, ownsRow_base hown7 hbel.size, fun k hk e => ?_, hbel.trans (hb7.mono hbel.size)⟩
  · rw [List.length_take, Nat.min_eq_left (by omega), flat_take2 _ _ (fun _ => rfl)]
    exact ownsRow_take (ownsRow_keep hs hb7) (by omega) (by omega) (flat_len2 _ _ (fun _ => rfl))
  · have h1 := (hown7.lt k e).1
    obtain ⟨G, rfl, _, hG, _⟩ := own_cells hs (by omega)
    simp only [Value.ownBlock, Option.some.injEq] at hk
    omega
theorem Try.info_ropen : (Try.prog.info? 49).map (fun i => (i.zero, i.size, i.bytes)) = some (some (.agg #[.int .i64 0, .int .i32 0]), 2, 16) := by kernel_rfl

set_option maxRecDepth 100000 in
set_option maxHeartbeats 1000000 in
theorem RefBrackets_any (ra ka : Option Addr) (rs ks : List Int) (rc kc : Nat) (w : World) (hr : Rd .i32 w ra rs) (hk : Rd .i8 w ka ks) (hrn : rs.length ≤ 2097152) (hkn : ks.length ≤ 2097152) :
    Calls Try.prog 10 #[.slice ra rs.length rc, .slice ka ks.length kc] w (BrkPost rs ks w) := by
  obtain ⟨M, hM⟩ : ∃ M, M = min rs.length ks.length := ⟨_, rfl⟩
  have hM1 : M ≤ rs.length := by omega
  have hM2 : M ≤ ks.length := by omega
  have hcount := refCount_any ra ka rs.length ks.length rc kc w
  rw [← hM] at hcount
  have HM := Lib.hid hM
  clear hM
  obtain ⟨i29, hi29, hz29, ha29, hb29⟩ := info_parts (Try.info_two)
  obtain ⟨i49, hi49, hz49, ha49, hb49⟩ := info_parts (Try.info_ropen)
  go_enter Try.func10, Try.ntmps10
  go_wp2_with (go_at_call 21; refine hcount.mono ?_; rintro e w' ⟨rfl, hw'⟩; subst hw')
  clear hcount
  go_loopw [6, 7, 8] (fun s o c wr => RbRel rs ks M w s o c wr) (fun _ _ c _ => M - (intOf c).toNat)
  case atStart => exact ⟨0, M, [], [], [], by omega, rfl, by simp, by simp, World.ownsRow_nil _ _ _ _, World.ownsRow_nil _ _ _ _, fun k h => (by cases h), List.Pairwise.nil, .refl _, Below.refl _ _, rfl⟩
  case round =>
    obtain ⟨i, m, st, out, out0, him, rfl, hst, hout, hown, hown2, hdis, hsrt, hperm, hbel, hF⟩ := hrel
    have HIM := Lib.hid him
    clear him
    have HF := Lib.hid hF
    clear hF
    have HOWN2 := Lib.hid hown2
    have HDIS := Lib.hid hdis
    have HSRT := Lib.hid hsrt
    have HPERM := Lib.hid hperm
    clear hown2 hdis hsrt hperm
    by_cases hlt : i < M
    · obtain ⟨rb, ro, rfl, hrb, hrc⟩ := hr.at hbel i (by omega)
      obtain ⟨kb, ko, rfl, hkb, hkc⟩ := hk.at hbel i (by omega)
      obtain ⟨m, rfl⟩ : ∃ q, m = q + 1 := ⟨m - 1, by have := HIM.out; omega⟩
      have hstep := fun (x y : Int) (pr : Int × Bool × Bool) (hx : ith rs i = x) (hy : ith ks i = y) (hp : pairI x = pr) => brkF_step rs ks m i st out0 x y pr hx hy hp
      have HS := Lib.hid hstep
      clear hstep
      generalize hx : ith rs i = x at hrc
      generalize hy : ith ks i = y at hkc
      have HX := Lib.hid hx
      have HY := Lib.hid hy
      clear hx hy
      have HP := Lib.hid (fun W => RefPair_any x W)
      unfold RefPairPost at HP
      generalize hpr : pairI x = pr at HP
      have HPR := Lib.hid hpr
      clear hpr
      obtain ⟨other, opens, ok⟩ := pr
      have hs := HS.out x y _ HX.out HY.out HPR.out
      clear HS
      go_upto_region 8 with (go_at_call 22; refine (HP.out _).mono ?_; rintro e w5 ⟨rfl, hb5⟩)
      have hrc5 := cell_bl hb5 (show rb < wr.heap.size by have := hbel.size; omega) hrc
      have hkc5 := cell_bl hb5 (show kb < wr.heap.size by have := hbel.size; omega) hkc
      have hbel5 := hbel.trans (hb5.mono hbel.size)
      have HOWN5 := Lib.hid (ownsRow_keep hown hb5)
      have HOWN25 := Lib.hid (ownsRow_keep HOWN2.out hb5)
      clear hown HOWN2 hrc hkc hb5 hbel
      obtain ⟨sa, sc, hsv, hsc, hscm⟩ := own_slice HOWN5.out
      subst hsv
      obtain ⟨oa, oc, hov, hP⟩ := PairsAt.of HOWN25.out
      subst hov
      have HP5 := Lib.hid hP
      clear hP hrb hkb
      have HBEL5 := Lib.hid hbel5
      clear hbel5
      cases ok
      · have HN := Lib.hid (hs.1 (.inl rfl))
        clear hs
        go_wp2_with (fail)
        go_roundw
        case rel => exact ⟨i + 1, m, st, out, out0, by have := HIM.out; omega, by go_num, hst, by omega, HOWN5.out, HOWN25.out, HDIS.out, HSRT.out, HPERM.out, HBEL5.out, by rw [← HF.out, HN.out]⟩
        case measure => simp [intOf]; omega
      · by_cases h13 : y = 13
        · subst h13
          cases opens
          · -- a closing one
            have HS4 := Lib.hid (hs.2.2.2.1 rfl rfl rfl)
            have HS5 := Lib.hid (fun k => hs.2.2.2.2 k rfl rfl rfl)
            clear hs
            go_upto_region 12 with (fail)
            clear hkc5
            go_wp2_with (fail)
            go_loopw [6, 7, 12] (fun s o c wx => ∃ (q : Int) (nq : Nat), s = .slice sa st.length sc ∧ o = .slice oa out.length oc ∧ -1 ≤ q ∧ q < st.length ∧ c = .int .i64 q ∧ wx = w5.drewN nq ∧ findTop st x st.length = findTop st x (q + 1).toNat) (fun _ _ c _ => (intOf c + 1).toNat)
            case atStart => exact ⟨(st.length : Int) - 1, 0, rfl, rfl, by omega, by omega, rfl, rfl, by rw [show ((st.length : Int) - 1 + 1).toNat = st.length by omega]⟩
            case round =>
              obtain ⟨q, nq, rfl, rfl, hq1, hq2, rfl, rfl, hfind⟩ := hrel
              have HFIND := Lib.hid hfind
              clear hfind
              by_cases hq : 0 ≤ q
              · obtain ⟨qn, rfl⟩ := Int.eq_ofNat_of_zero_le hq
                obtain ⟨G, rfl, hG1, hG2, hcells⟩ := own_cells HOWN5.out (by omega)
                have hc0 := (hcells (qn * 2) (by omega)).trans (flat_get2 st (0, 0) ocell _ _ (fun _ => rfl) qn (by omega)).1
                have hc1 := (hcells (qn * 2 + 1) (by omega)).trans (flat_get2 st (0, 0) ocell _ _ (fun _ => rfl) qn (by omega)).2
                clear hcells
                have g1 : (0 : Int) ≤ (i : Int) := by omega
                have g2 : (i : Int) < (rs.length : Int) := by omega
                have hft : findTop st x (qn + 1) = if (st.getD qn (0, 0)).2 = x then some qn else findTop st x qn := rfl
                generalize hget : st.getD qn (0, 0) = tp at hc0 hc1 hft
                have HGET := Lib.hid hget
                clear hget
                obtain ⟨tat, toth⟩ := tp
                by_cases hcmp : toth = x
                · subst hcmp
                  rw [if_pos rfl] at hft
                  have HFT := Lib.hid hft
                  clear hft
                  have HN := Lib.hid (HS5.out qn (by rw [HFIND.out, show ((qn : Int) + 1).toNat = qn + 1 by omega]; exact HFT.out))
                  go_wp2_with (fail)
                  go_quiet (fail)
                  go_upto_region 17 with (go_at_call 23; refine (refPut_any oa oc w.heap.size out tat i _ (by exact ownsRow_drewN HP5.out _) HSRT.out (by omega)).mono ?_; rintro e w7 ⟨v7, l7, hp7, hs7, rfl, hown7, hb7⟩)
                  have hr1 := rb_close (qn := qn) (by omega) HOWN5.out hown7 ((bl_drewN (Below.refl w5.heap.size w5) _).trans hb7) HBEL5.out
                  have hpm := hp7.trans (HPERM.out.append_right [(tat, i)])
                  have hl7 : l7.length ≤ i + 1 := by rw [hp7.length_eq, List.length_append, List.length_singleton]; omega
                  clear hown7 hb7 hp7
                  have g3 : (qn : Int) ≤ (sc : Int) := by omega
                  go_wp2_with (fail)
                  go_roundw
                  case rel => exact ⟨i + 1, m, st.take qn, l7, out0 ++ [(tat, i)], by have := HIM.out; omega, by go_num, by rw [List.length_take]; omega, hl7, hr1.1, hr1.2.1, hr1.2.2.1, hs7, hpm, hr1.2.2.2, by rw [← HF.out, HN.out, HGET.out]⟩
                  case measure => simp [intOf]; omega
                · rw [if_neg hcmp] at hft
                  have HFT := Lib.hid hft
                  clear hft
                  have hcmp' : (toth == x) = false := by simpa using hcmp
                  have HC := Lib.hid hcmp
                  clear hcmp
                  go_wp2_with (fail)
                  go_quiet (fail)
                  go_wp2_with (fail)
                  go_roundw
                  case rel => exact ⟨(qn : Int) - 1, _, rfl, rfl, by omega, by omega, rfl, rfl, by rw [HFIND.out, show ((qn : Int) + 1).toNat = qn + 1 by omega, HFT.out]; exact congrArg _ (by omega)⟩
                  case measure => simp [intOf]
              · have HN := Lib.hid (HS4.out (by rw [HFIND.out, show (q + 1).toNat = 0 by omega]; rfl))
                go_wp2_with (fail)
                go_roundw
                case rel => exact ⟨i + 1, m, st, out, out0, by have := HIM.out; omega, by go_num, hst, by omega, ownsRow_drewN HOWN5.out _, ownsRow_drewN HOWN25.out _, HDIS.out, HSRT.out, HPERM.out, bl_drewN HBEL5.out _, by rw [← HF.out, HN.out]⟩
                case measure => simp [intOf]; omega
          · -- an opening one
            by_cases hfull : st.length = 63
            · have HN := Lib.hid (hs.2.1 rfl rfl rfl hfull)
              clear hs
              have hf1 : ((st.length : Int) == 63) = true := by rw [hfull]; rfl
              have HFULL := Lib.hid hfull
              clear hfull
              go_wp2_with (fail)
              go_ret
              exact ⟨_, out, by rw [← HM.out, ← HF.out, HN.out]; exact HPERM.out, HSRT.out, rfl, HOWN25.out, HBEL5.out⟩
            · have HN := Lib.hid (hs.2.2.1 rfl rfl rfl hfull)
              clear hs
              have hf1 : ((st.length : Int) == 63) = false := by simp; omega
              have hsz5 := HBEL5.out.size
              go_wp2_with (at_builtin; refine wpList_append_own_at _ rfl (.tmp 43) (.tmp 47) 47 rfl w.heap.size 49 i49 _ 2 16 Try.underlying47 hi49 hz49 ha49 hb49 rfl (by omega) (.slice sa st.length sc) st.length (st.flatMap ocell) rfl (HOWN5.out.alloc _) ⟨w5.heap.size, 0, none⟩ 1 1 [.int .i64 i, .int .i32 other] rfl rfl (World.news_of_block (cs := #[.int .i64 i, .int .i32 other]) (t := 49) (fr := (0, 0)) (heap_alloc_new _ _)) (by simp [Value.oneCell']) (by unfold maxLen; omega) (by omega) (by simp; omega) ?_; intro v6 w6 hown6 hg6 _ hloc)
              have hr1 := rb_push (x := (i, other)) hown6 hg6 hloc HOWN5.out HOWN25.out HDIS.out HBEL5.out
              clear hown6 hg6 hloc
              go_roundw
              case rel => exact ⟨i + 1, m, st ++ [(i, other)], out, out0, by have := HIM.out; omega, by go_num, by rw [List.length_append, List.length_singleton]; omega, by omega, hr1.1, hr1.2.1, hr1.2.2.1, HSRT.out, HPERM.out, hr1.2.2.2, by rw [← HF.out, HN.out]⟩
              case measure => simp [intOf]; omega
        · have HN := Lib.hid (hs.1 (.inr h13))
          clear hs
          have h13' : (y != 13) = true := by simpa using h13
          have H13 := Lib.hid h13
          clear h13
          go_wp2_with (fail)
          go_roundw
          case rel => exact ⟨i + 1, m, st, out, out0, by have := HIM.out; omega, by go_num, hst, by omega, HOWN5.out, HOWN25.out, HDIS.out, HSRT.out, HPERM.out, HBEL5.out, by rw [← HF.out, HN.out]⟩
          case measure => simp [intOf]; omega
    · have hiM : i ≤ M := by have := HIM.out; omega
      have hm0 : m = 0 := by have := HIM.out; omega
      have HF0 : Hid (out0 = brkF rs ks M 0 [] []) := by subst hm0; exact HF
      clear hm0
      obtain ⟨sa, sc, hsv, hsc, hscm⟩ := own_slice hown
      subst hsv
      go_wp2_with (fail)
      go_ret
      exact ⟨_, out, by rw [← HM.out, ← HF0.out]; exact HPERM.out, HSRT.out, rfl, HOWN2.out, hbel⟩
end Go.Proofs.Ytgalccfhofimaaa
