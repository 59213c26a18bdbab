/-
  A part of the proof of LexTokens (whatever the input, the law returns true and the input reads as it did): plain laws of what is told. Conditions stand at each theorem.
-/
import Derived.Test.YtpgoemlnjocmhaaDoorLexOa
namespace Go.Proofs.YtpgoemlnjocmhaaDoor.Lex
open Go.RowKit Go.Proofs.YtpgoemlnjocmhaaDoorW.PrintWords
set_option linter.unusedVariables false
set_option linter.unusedSimpArgs false

/-! The plain law: the token at a place is the first token of what is left there. -/
def tl (s : ByteArray) (i : Nat) : ByteArray := s.extract i s.size
theorem ba_ext {a b : ByteArray} (h : a.data.toList = b.data.toList) : a = b := by
  rcases a with ⟨a⟩
  rcases b with ⟨b⟩
  have : a = b := Array.ext' h
  rw [this]
theorem tl_list (s : ByteArray) (i : Nat) : (tl s i).data.toList = s.data.toList.drop i := by
  unfold tl
  rw [Lib.extract_data, List.take_of_length_le]
  simp
theorem tl_size (s : ByteArray) (i : Nat) : (tl s i).size = s.size - i := by simp [tl]
theorem tl_bt (s : ByteArray) (i j : Nat) : bt (tl s i) j = bt s (i + j : Nat) := by
  rcases Nat.lt_or_ge (i + j) s.size with h | h
  · obtain ⟨c, h1, h2⟩ := drop_bt s (i + j) h
    obtain ⟨d, h3, h4⟩ := drop_bt (tl s i) j (by rw [tl_size]; omega)
    rw [tl_list, List.drop_drop, h1] at h3
    injection h3 with h3
    rw [← h2, ← h4, h3]
  · have e1 : bt (tl s i) j = 0 := by unfold bt; rw [dif_neg (by rw [tl_size]; omega)]
    have e2 : bt s (i + j : Nat) = 0 := by unfold bt; rw [dif_neg (by omega)]
    rw [e1, e2]
theorem tl_cnt (p : Int → Bool) (s : ByteArray) (i j : Nat) : cnt p (tl s i) j = cnt p s (i + j) := by
  unfold cnt
  rw [tl_list, List.drop_drop]
theorem tl_extract (s : ByteArray) (i a b : Nat) : (tl s i).extract a b = s.extract (i + a) (i + b) := by
  apply ba_ext
  rw [Lib.extract_data, Lib.extract_data, tl_list, List.drop_drop]
  congr 1
  omega
theorem tl_tl (s : ByteArray) (i j : Nat) : (tl s i).extract j (tl s i).size = tl s (i + j) := by
  apply ba_ext
  rw [Lib.extract_data, tl_list, tl_list, List.drop_drop, tl_size, List.take_of_length_le]
  simp; omega
theorem wordsB_ff : wordsB false false = nameB := by funext c; simp [wordsB]
theorem wordsB_tf : wordsB true false = ndB := by funext c; simp [wordsB, ndB]
theorem wordsB_tt : wordsB true true = nddB := by funext c; simp [wordsB, nddB]
theorem tl_undot (s : ByteArray) (i : Nat) : ∀ n, 0 < undot (tl s i) n → undot s (i + n) = i + undot (tl s i) n
  | 0, h => absurd h (by simp [undot])
  | n + 1, h => by
    rw [← Nat.add_assoc]
    unfold undot at h ⊢
    rw [tl_bt] at h ⊢
    split
    · rename_i h1
      rw [if_pos h1] at h
      exact tl_undot s i n h
    · omega
theorem tl_textF (s : ByteArray) (q : Int) (i : Nat) : ∀ (k j : Nat) (acc : List Int), textF s q k (i + j) acc = (textF (tl s i) q k j acc).map fun r => (r.1, i + r.2)
  | 0, j, acc => rfl
  | k + 1, j, acc => by
    unfold textF
    rw [tl_bt, tl_bt, tl_size, ← Nat.add_assoc]
    by_cases h : i + j < s.size
    · rw [if_pos h, if_pos (show j < s.size - i by omega)]
      split
      · rfl
      · split
        · rfl
        · split
          · split
            · rfl
            · exact (by rw [← tl_textF s q i k (j + 2), show i + j + 2 = i + (j + 2) by omega])
          · exact (by rw [← tl_textF s q i k (j + 1), show i + j + 1 = i + (j + 1) by omega])
    · rw [if_neg h, if_neg (show ¬ j < s.size - i by omega)]; rfl
theorem textF_fuel (s : ByteArray) (q : Int) : ∀ (k m j : Nat) (acc : List Int), s.size < k + j → textF s q (k + m) j acc = textF s q k j acc
  | 0, m, j, acc, h => by
    cases m with
    | zero => rfl
    | succ m => rw [Nat.zero_add]; simp only [textF]; rw [if_neg (by omega)]
  | k + 1, m, j, acc, h => by
    rw [show k + 1 + m = (k + m) + 1 by omega]
    rw [textF, textF]
    rw [textF_fuel s q k m (j + 2) _ (by omega), textF_fuel s q k m (j + 1) _ (by omega)]
theorem tl_text (s : ByteArray) (q : Int) (i : Nat) (hi : i ≤ s.size) : textF s q (s.size + 1) (i + 1) [] = (textF (tl s i) q ((tl s i).size + 1) 1 []).map fun r => (r.1, i + r.2) := by
  rw [tl_textF, tl_size, show s.size + 1 = (s.size - i + 1) + i by omega, textF_fuel _ _ _ _ _ _ (by rw [tl_size]; omega)]
theorem tl_cons (s : ByteArray) (h : 0 < s.size) : ∃ (c : UInt8) (l : List UInt8), s.data.toList = c :: l ∧ (c.toNat : Int) = bt s 0 := by
  obtain ⟨c, h1, h2⟩ := drop_bt s 0 h
  exact ⟨c, _, by simpa using h1, h2⟩
theorem pre2 (s : ByteArray) (a b : UInt8) : (Lib.hasPrefix s.data.toList [a, b] = true) ↔ (bt s 0 = a.toNat ∧ bt s 1 = b.toNat ∧ 1 < s.size) := by
  constructor
  · intro h
    have h1 := hasPrefix_len h
    have h2 : 2 ≤ s.size := by simpa using h1
    obtain ⟨c, h3, h4⟩ := drop_bt s 0 (by omega)
    obtain ⟨d, h5, h6⟩ := drop_bt s 1 (by omega)
    simp only [List.drop_zero, Nat.zero_add] at h3
    rw [h3, h5] at h
    simp [Lib.hasPrefix, List.isPrefixOf] at h
    obtain ⟨rfl, rfl⟩ := h
    exact ⟨h4.symm, h6.symm, by omega⟩
  · rintro ⟨h1, h2, h3⟩
    obtain ⟨c, h4, h5⟩ := drop_bt s 0 (by omega)
    obtain ⟨d, h6, h7⟩ := drop_bt s 1 (by omega)
    simp only [List.drop_zero, Nat.zero_add] at h4
    rw [h4, h6]
    have e1 : c = a := UInt8.toNat_inj.1 (by have : (c.toNat : Int) = a.toNat := h5.trans h1; omega)
    have e2 : d = b := UInt8.toNat_inj.1 (by have : (d.toNat : Int) = b.toNat := h7.trans h2; omega)
    subst e1 e2
    simp [Lib.hasPrefix, List.isPrefixOf]
theorem one_sign (c : Int) (h0 : 0 ≤ c) (h1 : c ≤ 255) : (Lib.indexByte oneSigns c.toNat.toUInt8 < 0) ↔ oneAny 0 c = false := by
  have key : ∀ n : Fin 256, decide (Lib.indexByte oneSigns (n.val : Int).toNat.toUInt8 < 0) = !(oneAny 0 (n.val : Int)) := by decide +kernel
  obtain ⟨n, rfl⟩ := Int.eq_ofNat_of_zero_le h0
  have := key ⟨n, by omega⟩
  cases h : oneAny 0 (n : Int) <;> simp_all
theorem sign_eq (s : ByteArray) : signT s = if signR s = 0 then none else some (9, s.extract 0 (signR s), signR s) := by
  unfold signT signR
  cases h : twos.find? (fun p => Lib.hasPrefix s.data.toList p) with
  | some p =>
    have h1 := List.find?_some h
    have h3 := List.mem_of_find?_eq_some h
    have h4 : p.length = 2 := by simp [twos] at h3; rcases h3 with rfl | rfl | rfl | rfl | rfl | rfl <;> rfl
    have h5 : (⟨p.toArray⟩ : ByteArray) = s.extract 0 2 := by
      apply ba_ext
      rw [Lib.extract_data]
      unfold Lib.hasPrefix at h1
      obtain ⟨t, ht⟩ := List.isPrefixOf_iff_prefix.1 h1
      rw [← ht]
      simp [← h4]
    simp [h5]
  | none =>
    have hb := bt_range s 0
    simp only []
    cases h2 : oneAny 0 (bt s 0) with
    | true =>
      rw [if_neg (fun h3 => by rw [(one_sign _ hb.1 hb.2).1 h3] at h2; simp at h2)]
      simp
    | false =>
      rw [if_pos ((one_sign _ hb.1 hb.2).2 h2)]
      simp
end Go.Proofs.YtpgoemlnjocmhaaDoor.Lex
