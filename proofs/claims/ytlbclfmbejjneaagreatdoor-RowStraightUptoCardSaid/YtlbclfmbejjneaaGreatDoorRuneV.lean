/- Characters and their bytes: what is decoded encodes to the same bytes, and back. No program is in sight. -/
import Derived.Test.YtlbclfmbejjneaaGreatDoorRunes
import Derived.Lib.MapLaws
import Derived.Laws.Cover4
namespace Go.Proofs.YtlbclfmbejjneaaGreatDoor
set_option linter.unusedVariables false
set_option linter.unusedSimpArgs false

theorem get_app (a : Array UInt8) (t : ByteArray) (i : Nat) (h : i < a.size) : ((⟨a⟩ : ByteArray) ++ t).get! i = a[i] := by
  show ((⟨a⟩ : ByteArray) ++ t).data[i]! = a[i]
  have hd : ((⟨a⟩ : ByteArray) ++ t).data = a ++ t.data := by simp
  rw [hd, getElem!_pos (a ++ t.data) i (by rw [Array.size_append]; omega), Array.getElem_append_left h]
theorem ext_bytes (t : ByteArray) (k : Nat) (hk : k ≤ t.size) : t.extract 0 k = ⟨((List.range k).map (fun i => t.get! i)).toArray⟩ := by
  apply ByteArray.ext
  rw [ByteArray.data_extract]
  apply Array.ext
  · simp; show min k t.size = k; omega
  · intro i h1 h2
    have hi : i < t.data.size := by
      have : i < min k t.data.size := by simpa using h1
      omega
    simp
    show _ = t.data[i]!
    rw [getElem!_pos t.data i hi]
theorem byte_of (x : UInt8) (n : Nat) (h : n = x.toNat) : UInt8.ofNat n = x := by subst h; simp
/-- a character that was decoded from good bytes encodes to just those bytes -/
theorem enc_dec (t : ByteArray) (h : 0 < t.size) (hv : ¬ (decR t = 65533 ∧ decN t = 1)) : Utf8.encode (decR t) = t.extract 0 (decN t) := by
  have hl := decN_le t
  rw [ext_bytes t _ hl]
  have hd := dec_go t h
  rw [Lib.decode_at] at hd
  unfold decR decN at hv hl ⊢
  rw [← hd] at hv hl ⊢
  simp only [Nat.zero_add, Nat.sub_zero] at hv hl ⊢
  have k0 := (t.get! 0).toNat_lt
  have k1 := (t.get! 1).toNat_lt
  have k2 := (t.get! 2).toNat_lt
  have k3 := (t.get! 3).toNat_lt
  rcases Lib.decodeN_shape t.size (t.get! 0).toNat (t.get! 1).toNat (t.get! 2).toNat (t.get! 3).toNat with ⟨c, e⟩ | ⟨c1, c2, c3, cv, e⟩ | ⟨c1, c2, c3, c4, cv, cs, e⟩ | ⟨c1, c2, c3, c4, c5, cv, cw, e⟩ | e
  · rw [e] at hl ⊢
    dsimp only
    have hval : Utf8.valid ((t.get! 0).toNat : Int) = true := by rw [validRune_eq]; unfold validRune; rw [decide_eq_true_eq]; omega
    unfold Utf8.encode
    simp only [hval, if_true, Int.toNat_natCast]
    rw [if_pos (by omega), byte_of (t.get! 0) _ rfl]
    rfl
  · rw [e] at hl ⊢
    dsimp only
    generalize hc : (t.get! 0).toNat % 32 * 64 + (t.get! 1).toNat % 64 = c at cv
    have hval : Utf8.valid (c : Int) = true := by rw [validRune_eq]; unfold validRune; rw [decide_eq_true_eq]; omega
    unfold Utf8.encode
    simp only [hval, if_true, Int.toNat_natCast]
    rw [if_neg (by omega), if_pos (by omega), byte_of (t.get! 0) _ (by omega), byte_of (t.get! 1) _ (by omega)]
    rfl
  · rw [e] at hl ⊢
    dsimp only
    generalize hc : (t.get! 0).toNat % 16 * 4096 + (t.get! 1).toNat % 64 * 64 + (t.get! 2).toNat % 64 = c at cv cs
    have hval : Utf8.valid (c : Int) = true := by rw [validRune_eq]; unfold validRune; rw [decide_eq_true_eq]; omega
    unfold Utf8.encode
    simp only [hval, if_true, Int.toNat_natCast]
    rw [if_neg (by omega), if_neg (by omega), if_pos (by omega), byte_of (t.get! 0) _ (by omega), byte_of (t.get! 1) _ (by omega), byte_of (t.get! 2) _ (by omega)]
    rfl
  · rw [e] at hl ⊢
    dsimp only
    generalize hc : (t.get! 0).toNat % 8 * 262144 + (t.get! 1).toNat % 64 * 4096 + (t.get! 2).toNat % 64 * 64 + (t.get! 3).toNat % 64 = c at cv cw
    have hval : Utf8.valid (c : Int) = true := by rw [validRune_eq]; unfold validRune; rw [decide_eq_true_eq]; omega
    unfold Utf8.encode
    simp only [hval, if_true, Int.toNat_natCast]
    rw [if_neg (by omega), if_neg (by omega), if_neg (by omega), byte_of (t.get! 0) _ (by omega), byte_of (t.get! 1) _ (by omega), byte_of (t.get! 2) _ (by omega), byte_of (t.get! 3) _ (by omega)]
    rfl
  · exfalso
    rw [e] at hv
    exact hv ⟨rfl, rfl⟩
theorem ofNat_lt (n : Nat) (h : n < 256) : (UInt8.ofNat n).toNat = n := by simp; omega
/-- a good character's bytes decode to it, whatever stands behind -/
theorem dec_enc (r : Int) (hv : validRune r = true) (t : ByteArray) : Utf8.decode (Utf8.encode r ++ t) 0 = (r.toNat, (Utf8.encode r).size) := by
  have hval : Utf8.valid r = true := by rw [validRune_eq]; exact hv
  unfold validRune at hv
  rw [decide_eq_true_eq] at hv
  unfold Utf8.encode
  simp only [hval, if_true]
  generalize hc : r.toNat = c
  have hb : c < 55296 ∨ (57343 < c ∧ c ≤ 1114111) := by omega
  by_cases c1 : c < 128
  · rw [if_pos c1]
    have g0 : (((⟨#[UInt8.ofNat c]⟩ : ByteArray) ++ t).get! 0).toNat = c := by rw [get_app _ _ 0 (by simp)]; exact ofNat_lt _ (by omega)
    rw [Lib.decode_at]
    simp only [Nat.zero_add, Nat.sub_zero]
    rw [g0]
    unfold Lib.decodeN
    rw [if_pos c1]
    rfl
  rw [if_neg c1]
  by_cases c2 : c < 2048
  · rw [if_pos c2]
    have hz : ((⟨#[UInt8.ofNat (192 + c / 64), UInt8.ofNat (128 + c % 64)]⟩ : ByteArray) ++ t).size = 2 + t.size := by rw [ByteArray.size_append]; rfl
    have g0 : (((⟨#[UInt8.ofNat (192 + c / 64), UInt8.ofNat (128 + c % 64)]⟩ : ByteArray) ++ t).get! 0).toNat = 192 + c / 64 := by rw [get_app _ _ 0 (by simp)]; exact ofNat_lt _ (by omega)
    have g1 : (((⟨#[UInt8.ofNat (192 + c / 64), UInt8.ofNat (128 + c % 64)]⟩ : ByteArray) ++ t).get! 1).toNat = 128 + c % 64 := by rw [get_app _ _ 1 (by simp)]; exact ofNat_lt _ (by omega)
    rw [Lib.decode_at]
    simp only [Nat.zero_add, Nat.sub_zero]
    rw [g0, g1, hz]
    unfold Lib.decodeN
    rw [if_neg (by omega), if_pos ⟨by omega, by omega, by omega⟩, if_pos (by omega)]
    exact Prod.ext (by show _ = c; omega) rfl
  rw [if_neg c2]
  by_cases c3 : c < 65536
  · rw [if_pos c3]
    have hz : ((⟨#[UInt8.ofNat (224 + c / 4096), UInt8.ofNat (128 + c / 64 % 64), UInt8.ofNat (128 + c % 64)]⟩ : ByteArray) ++ t).size = 3 + t.size := by rw [ByteArray.size_append]; rfl
    have g0 : (((⟨#[UInt8.ofNat (224 + c / 4096), UInt8.ofNat (128 + c / 64 % 64), UInt8.ofNat (128 + c % 64)]⟩ : ByteArray) ++ t).get! 0).toNat = 224 + c / 4096 := by rw [get_app _ _ 0 (by simp)]; exact ofNat_lt _ (by omega)
    have g1 : (((⟨#[UInt8.ofNat (224 + c / 4096), UInt8.ofNat (128 + c / 64 % 64), UInt8.ofNat (128 + c % 64)]⟩ : ByteArray) ++ t).get! 1).toNat = 128 + c / 64 % 64 := by rw [get_app _ _ 1 (by simp)]; exact ofNat_lt _ (by omega)
    have g2 : (((⟨#[UInt8.ofNat (224 + c / 4096), UInt8.ofNat (128 + c / 64 % 64), UInt8.ofNat (128 + c % 64)]⟩ : ByteArray) ++ t).get! 2).toNat = 128 + c % 64 := by rw [get_app _ _ 2 (by simp)]; exact ofNat_lt _ (by omega)
    rw [Lib.decode_at]
    simp only [Nat.zero_add, Nat.sub_zero]
    rw [g0, g1, g2, hz]
    unfold Lib.decodeN
    rw [if_neg (by omega), if_neg (by omega), if_pos ⟨by omega, ⟨by omega, by omega⟩, by omega, by omega⟩, if_pos (by omega)]
    exact Prod.ext (by show _ = c; omega) rfl
  · rw [if_neg c3]
    have hz : ((⟨#[UInt8.ofNat (240 + c / 262144), UInt8.ofNat (128 + c / 4096 % 64), UInt8.ofNat (128 + c / 64 % 64), UInt8.ofNat (128 + c % 64)]⟩ : ByteArray) ++ t).size = 4 + t.size := by rw [ByteArray.size_append]; rfl
    have g0 : (((⟨#[UInt8.ofNat (240 + c / 262144), UInt8.ofNat (128 + c / 4096 % 64), UInt8.ofNat (128 + c / 64 % 64), UInt8.ofNat (128 + c % 64)]⟩ : ByteArray) ++ t).get! 0).toNat = 240 + c / 262144 := by rw [get_app _ _ 0 (by simp)]; exact ofNat_lt _ (by omega)
    have g1 : (((⟨#[UInt8.ofNat (240 + c / 262144), UInt8.ofNat (128 + c / 4096 % 64), UInt8.ofNat (128 + c / 64 % 64), UInt8.ofNat (128 + c % 64)]⟩ : ByteArray) ++ t).get! 1).toNat = 128 + c / 4096 % 64 := by rw [get_app _ _ 1 (by simp)]; exact ofNat_lt _ (by omega)
    have g2 : (((⟨#[UInt8.ofNat (240 + c / 262144), UInt8.ofNat (128 + c / 4096 % 64), UInt8.ofNat (128 + c / 64 % 64), UInt8.ofNat (128 + c % 64)]⟩ : ByteArray) ++ t).get! 2).toNat = 128 + c / 64 % 64 := by rw [get_app _ _ 2 (by simp)]; exact ofNat_lt _ (by omega)
    have g3 : (((⟨#[UInt8.ofNat (240 + c / 262144), UInt8.ofNat (128 + c / 4096 % 64), UInt8.ofNat (128 + c / 64 % 64), UInt8.ofNat (128 + c % 64)]⟩ : ByteArray) ++ t).get! 3).toNat = 128 + c % 64 := by rw [get_app _ _ 3 (by simp)]; exact ofNat_lt _ (by omega)
    rw [Lib.decode_at]
    simp only [Nat.zero_add, Nat.sub_zero]
    rw [g0, g1, g2, g3, hz]
    unfold Lib.decodeN
    rw [if_neg (by omega), if_neg (by omega), if_neg (by omega), if_pos ⟨by omega, ⟨by omega, by omega⟩, ⟨by omega, by omega⟩, by omega, by omega⟩, if_pos (by omega)]
    exact Prod.ext (by show _ = c; omega) rfl
theorem enc_pos (r : Int) : 0 < (Utf8.encode r).size := by
  unfold Utf8.encode
  dsimp only
  generalize (if Utf8.valid r = true then r.toNat else Utf8.runeError) = c
  split
  · show 0 < 1; omega
  split
  · show 0 < 2; omega
  split
  · show 0 < 3; omega
  · show 0 < 4; omega
/-- the bytes of characters, from the first on -/
def bytesF : List Int → ByteArray
  | [] => ⟨#[]⟩
  | r :: t => Utf8.encode r ++ bytesF t
theorem foldl_bytes : ∀ (l : List Int) (a : ByteArray), l.foldl (fun r n => r ++ Utf8.encode n) a = a ++ bytesF l
  | [], a => by
    apply ByteArray.ext
    simp [bytesF]
  | r :: t, a => by rw [List.foldl_cons, foldl_bytes t, bytesF, ByteArray.append_assoc]
theorem runesBytes_F (l : List Int) : runesBytes l = bytesF l := by
  unfold runesBytes
  rw [foldl_bytes]
  apply ByteArray.ext
  simp [ByteArray.empty, ByteArray.emptyWithCapacity]
  rfl
def validAll (l : List Int) : Prop := ∀ r ∈ l, validRune r = true
theorem bytes_go (r : Int) (t : List Int) (hv : validRune r = true) : Lib.decodeGo (bytesF (r :: t)) = (r.toNat, (Utf8.encode r).size) := by
  have hp := enc_pos r
  have h0 : 0 < (bytesF (r :: t)).size := by rw [bytesF, ByteArray.size_append]; omega
  rw [← dec_go _ h0, bytesF]
  exact dec_enc r hv _
theorem app_tail (a b : ByteArray) : (a ++ b).extract a.size (a ++ b).size = b := by
  apply ByteArray.ext
  rw [ByteArray.data_extract]
  have hd : (a ++ b).data = a.data ++ b.data := by simp
  have hs : (a ++ b).size = a.data.size + b.data.size := by rw [ByteArray.size_append]; rfl
  rw [hd, hs, show a.size = a.data.size from rfl, Array.extract_append]
  generalize a.data = x
  generalize b.data = y
  simp
theorem bytes_runes : ∀ (l : List Int), validAll l → runesI (bytesF l) = l
  | [], _ => rfl
  | r :: t, h => by
    have hv := h r (by simp)
    have hg := bytes_go r t hv
    have hp := enc_pos r
    have h0 : 0 < (bytesF (r :: t)).size := by rw [bytesF, ByteArray.size_append]; omega
    have hr : 0 ≤ r := by unfold validRune at hv; rw [decide_eq_true_eq] at hv; omega
    have e1 : decR (bytesF (r :: t)) = r := by unfold decR; rw [hg]; show ((r.toNat : Nat) : Int) = r; omega
    have e2 : decN (bytesF (r :: t)) = (Utf8.encode r).size := by unfold decN; rw [hg]
    rw [runesI_cons _ h0, e1, e2]
    have : (bytesF (r :: t)).extract (Utf8.encode r).size (bytesF (r :: t)).size = bytesF t := by rw [bytesF]; exact app_tail _ _
    rw [this, bytes_runes t (fun x hx => h x (by simp [hx]))]
/-- has a text a bad byte? -/
def badF (s : ByteArray) : Nat → Nat → Bool
  | 0, _ => false
  | f + 1, i => if i < s.size then (decide (((Utf8.decode s i).1 : Int) = 65533) && decide ((Utf8.decode s i).2 = 1)) || badF s f (i + (Utf8.decode s i).2) else false
def badI (s : ByteArray) : Bool := badF s s.size 0
theorem badF_fuel (s : ByteArray) : ∀ (f g i : Nat), s.size ≤ i + f → s.size ≤ i + g → badF s f i = badF s g i
  | 0, 0, i, hf, hg => rfl
  | 0, g + 1, i, hf, hg => by rw [badF, badF, if_neg (by omega)]
  | f + 1, 0, i, hf, hg => by rw [badF, badF, if_neg (by omega)]
  | f + 1, g + 1, i, hf, hg => by
    rw [badF, badF]
    split
    · rename_i h
      have := Lib.decode_width_pos s i h
      rw [badF_fuel s f g _ (by omega) (by omega)]
    · rfl
theorem badF_shift (s : ByteArray) (i : Nat) (hi : i ≤ s.size) : ∀ (f j : Nat), badF (s.extract i s.size) f j = badF s f (i + j)
  | 0, j => rfl
  | f + 1, j => by
    rw [badF, badF, ext_size s i hi, dec_ext s i j hi]
    by_cases h : i + j < s.size
    · rw [if_pos (by omega), if_pos h, badF_shift s i hi f, Nat.add_assoc]
    · rw [if_neg (by omega), if_neg h]
theorem bad_cons (t : ByteArray) (h : 0 < t.size) : badI t = ((decide (decR t = 65533) && decide (decN t = 1)) || badI (t.extract (decN t) t.size)) := by
  have hn := decN_le t
  unfold badI
  obtain ⟨k, hk⟩ : ∃ k, t.size = k + 1 := ⟨t.size - 1, by omega⟩
  rw [badF_shift t (decN t) hn, ext_size t _ hn]
  rw [hk, badF, if_pos (by omega), dec_go t h, Nat.zero_add, Nat.add_zero]
  have hp := decN_pos t h
  show (_ || badF t k (decN t)) = _
  rw [badF_fuel t k (k + 1 - decN t) (decN t) (by omega) (by omega)]
  rfl
theorem ext_join (t : ByteArray) (k : Nat) (h : k ≤ t.size) : t.extract 0 k ++ t.extract k t.size = t := by
  apply ByteArray.ext
  simp [ByteArray.data_extract]
/-- a text without bad bytes is the bytes of its characters -/
theorem good_bytes : ∀ (n : Nat) (t : ByteArray), t.size ≤ n → badI t = false → bytesF (runesI t) = t
  | 0, t, hn, h => by
    have h0 : t.size = 0 := by omega
    rw [runesI_nil t h0, bytesF]
    apply ByteArray.ext
    exact (Array.eq_empty_of_size_eq_zero h0).symm
  | n + 1, t, hn, h => by
    by_cases h0 : t.size = 0
    · rw [runesI_nil t h0, bytesF]
      apply ByteArray.ext
      exact (Array.eq_empty_of_size_eq_zero h0).symm
    · have hp := decN_pos t (by omega)
      have hl := decN_le t
      rw [bad_cons t (by omega), Bool.or_eq_false_iff] at h
      have hv : ¬ (decR t = 65533 ∧ decN t = 1) := by
        rintro ⟨e1, e2⟩
        have := h.1
        rw [decide_eq_true e1, decide_eq_true e2] at this
        cases this
      rw [runesI_cons t (by omega), bytesF, enc_dec t (by omega) hv, good_bytes n _ (by rw [ext_size t _ hl]; omega) h.2, ext_join t _ hl]
theorem dec_valid (t : ByteArray) (h : 0 < t.size) : validRune (decR t) = true := by
  have hd := dec_go t h
  rw [Lib.decode_at] at hd
  unfold decR
  rw [← hd]
  unfold validRune
  rw [decide_eq_true_eq]
  rcases Lib.decodeN_shape (t.size - 0) (t.get! 0).toNat (t.get! (0 + 1)).toNat (t.get! (0 + 2)).toNat (t.get! (0 + 3)).toNat with ⟨c, e⟩ | ⟨c1, c2, c3, cv, e⟩ | ⟨c1, c2, c3, c4, cv, cs, e⟩ | ⟨c1, c2, c3, c4, c5, cv, cw, e⟩ | e
  all_goals (rw [e]; dsimp only; have k0 := (t.get! 0).toNat_lt; have k1 := (t.get! (0 + 1)).toNat_lt; have k2 := (t.get! (0 + 2)).toNat_lt; have k3 := (t.get! (0 + 3)).toNat_lt; omega)
theorem runes_valid : ∀ (n : Nat) (t : ByteArray), t.size ≤ n → validAll (runesI t)
  | 0, t, hn => by rw [runesI_nil t (by omega)]; intro r hr; cases hr
  | n + 1, t, hn => by
    by_cases h0 : t.size = 0
    · rw [runesI_nil t h0]; intro r hr; cases hr
    · have hp := decN_pos t (by omega)
      have hl := decN_le t
      rw [runesI_cons t (by omega)]
      intro r hr
      rcases List.mem_cons.1 hr with rfl | hr
      · exact dec_valid t (by omega)
      · exact runes_valid n _ (by rw [ext_size t _ hl]; omega) r hr
end Go.Proofs.YtlbclfmbejjneaaGreatDoor
