/-
  A part of the proof of LexTokens (whatever the input, the law returns true and the input reads as it did): plain law: tokens. Conditions stand at each theorem.
-/
import Derived.Test.YtpgoemlnjocmhaaDoorLexQ
namespace Go.Proofs.YtpgoemlnjocmhaaDoor.Lex
open Go.RowKit Go.Proofs.YtpgoemlnjocmhaaDoorW.PrintWords
set_option linter.unusedVariables false
set_option linter.unusedSimpArgs false

theorem tl_bt0 (s : ByteArray) (i : Nat) : bt (tl s i) 0 = bt s i := tl_bt s i 0
theorem tl_bt1 (s : ByteArray) (i : Nat) : bt (tl s i) 1 = bt s (i + 1 : Nat) := tl_bt s i 1
theorem iri_tl (s : ByteArray) (i : Nat) : iriT (tl s i) = if 0 < iriR s i then some (1, s.extract (i + 1) (iriR s i - 1), iriR s i - i) else none := by
  unfold iriT iriR
  rw [tl_bt0, tl_bt, tl_cnt, tl_extract]
  rw [show i + (1 + cnt signB s (i + 1)) = i + 1 + cnt signB s (i + 1) by omega]
  by_cases h : bt s i = 60 ∧ bt s (i + 1 + cnt signB s (i + 1) : Nat) = 62
  · rw [if_pos h, if_pos h, if_pos (by omega)]
    congr 1
    rw [show i + 1 + cnt signB s (i + 1) + 1 - 1 = i + 1 + cnt signB s (i + 1) by omega, show i + 1 + cnt signB s (i + 1) + 1 - i = cnt signB s (i + 1) + 2 by omega]
  · rw [if_neg h, if_neg h]; rfl
theorem iriR_ge {s : ByteArray} {i : Nat} (h : 0 < iriR s i) : i + 2 ≤ iriR s i := by
  revert h
  unfold iriR
  split <;> omega
theorem sign_tl (s : ByteArray) (i : Nat) : tokS s i = (signT (tl s i)).map fun r => (r.1, r.2.1, i + r.2.2) := by
  rw [sign_eq]
  change (if signR (tl s i) = 0 then none else some (9, s.extract i (i + signR (tl s i)), i + signR (tl s i))) = _
  split
  · rfl
  · rw [tl_extract]; rfl
theorem cnt_zero {p : Int → Bool} {s : ByteArray} {i : Nat} (h : p (bt s i) = false) : cnt p s i = 0 := by
  rcases Nat.lt_or_ge i s.size with h1 | h1
  · exact cnt_no p s i h1 h
  · exact cnt_end p s i (by omega)
theorem num_none {s : ByteArray} (h : digitB (bt s 0) = false) : numT s = none := by
  unfold numT
  rw [if_neg]
  have := cnt_zero (i := 0) h
  omega
theorem name_none {s : ByteArray} (h : letterB (bt s 0) = false) (h2 : bt s 0 ≠ 58) : nameT s = none := by
  unfold nameT
  have : nameK s = 0 := by unfold nameK; rw [if_neg (by rw [h]; simp)]
  rw [this]
  exact if_neg h2
theorem word_none {s : ByteArray} (h : letterB (bt s 0) = false) : wordT s = none := by
  unfold wordT
  rw [if_neg (by rw [h]; simp)]
theorem lang_none {s : ByteArray} (h : bt s 0 ≠ 64) : langT s = none := by
  unfold langT
  rw [if_neg (fun h2 => h h2.1)]
theorem var_none {s : ByteArray} (h : bt s 0 ≠ 63) (h2 : bt s 0 ≠ 36) : varT s = none := by
  unfold varT
  rw [if_neg (fun h3 => h3.1.elim h h2)]
theorem text_none {s : ByteArray} (h : bt s 0 ≠ 34) (h2 : bt s 0 ≠ 39) : textT s = none := by
  unfold textT
  rw [if_neg (fun h3 => h3.elim h h2)]
theorem blank_none {s : ByteArray} (h : bt s 0 ≠ 95) : blankT s = none := by
  unfold blankT
  rw [if_neg (fun h3 => h (by have := ((pre2 s 95 58).1 h3.1).1; simpa using this))]
theorem sign_none {s : ByteArray} (h : bt s 0 = 34 ∨ bt s 0 = 39) : signT s = none := by
  rw [sign_eq]
  have h1 : signR s = 0 := by
    unfold signR
    have h2 : twos.find? (fun p => Lib.hasPrefix s.data.toList p) = none := by
      rw [List.find?_eq_none]
      intro p hp hq
      simp [twos] at hp
      rcases hp with rfl | rfl | rfl | rfl | rfl | rfl <;>
        (have h3 := ((pre2 s _ _).1 hq).1; rcases h with h | h <;> rw [h] at h3 <;> exact absurd h3 (by decide))
    rw [h2]
    rcases h with h | h <;> rw [h] <;> rfl
  rw [if_pos h1]
theorem name_tl (s : ByteArray) (i : Nat) : nameT (tl s i) = if (letterB (bt s i) = true ∨ bt s i = 58) ∧ 0 < nameR s i then some (2, s.extract i (nameR s i), nameR s i - i) else none := by
  have hk : nameKR s i = i + nameK (tl s i) := by
    unfold nameKR nameK
    rw [tl_bt0, tl_cnt, wordsB_tf, Nat.add_zero]
    split <;> omega
  have hn : nameR s i = if bt s (nameKR s i) = 58 then undot s (nameKR s i + 1 + cnt nddB s (nameKR s i + 1)) else 0 := by unfold nameR; rw [wordsB_tt]
  have hc : bt (tl s i) (nameK (tl s i)) = bt s (nameKR s i) := by rw [hk, tl_bt]
  unfold nameT
  rw [hc]
  by_cases h : bt s (nameKR s i) = 58
  · rw [if_pos h] at hn ⊢
    have h1 := undot_gt (tl s i) (nameK (tl s i)) (hc.trans h) (nameK (tl s i) + 1 + cnt nddB (tl s i) (nameK (tl s i) + 1)) (by omega)
    have h2 := tl_undot s i _ (by omega : 0 < undot (tl s i) (nameK (tl s i) + 1 + cnt nddB (tl s i) (nameK (tl s i) + 1)))
    have e : i + nameK (tl s i) + 1 + cnt nddB s (i + nameK (tl s i) + 1) = i + (nameK (tl s i) + 1 + cnt nddB (tl s i) (nameK (tl s i) + 1)) := by
      rw [tl_cnt, show i + (nameK (tl s i) + 1) = i + nameK (tl s i) + 1 by omega]
      omega
    have h3 : nameR s i = i + nameN (tl s i) := by
      unfold nameN
      rw [hn, hk, e, h2]
    have h4 : 0 < nameN (tl s i) := by unfold nameN; omega
    have hcl : letterB (bt s i) = true ∨ bt s i = 58 := by
      by_cases hl : letterB (bt s i) = true
      · exact .inl hl
      · right
        have : nameKR s i = i := by unfold nameKR; rw [if_neg hl]
        rw [this] at h
        exact h
    have h5 : (letterB (bt s i) = true ∨ bt s i = 58) ∧ 0 < nameR s i := ⟨hcl, by omega⟩
    rw [if_pos h5, h3]
    generalize nameN (tl s i) = N
    rw [tl_extract, Nat.add_sub_cancel_left, Nat.add_zero]
  · rw [if_neg h] at hn ⊢
    rw [if_neg (by omega)]
theorem num_tl (s : ByteArray) (i : Nat) (hi : i < s.size) : numT (tl s i) = if digitB (bt s i) = true then some (7, s.extract i (numR s i), numR s i - i) else none := by
  have hn : numR s i = i + numN (tl s i) := by
    unfold numR numN
    simp only [tl_cnt, tl_bt, Nat.add_zero]
    rw [show i + (cnt digitB s i + 1) = i + cnt digitB s i + 1 by omega]
    split <;> omega
  unfold numT
  cases h : digitB (bt s i) with
  | true =>
    have h1 := cnt_yes digitB s i hi h
    rw [if_pos (by rw [tl_cnt]; simp only [Nat.add_zero]; omega), if_pos rfl, hn, tl_extract, show i + numN (tl s i) - i = numN (tl s i) by omega]
    rfl
  | false =>
    rw [if_neg (by rw [tl_cnt, Nat.add_zero, cnt_zero h]; omega), if_neg (by simp)]
/-- THE TOKEN AT A PLACE: the reference's is the program's at what is left there. -/
theorem tok_tl (s : ByteArray) (i : Nat) (hi : i < s.size) : tokR s i = (tokT (tl s i)).map fun r => (r.1, r.2.1, i + r.2.2) := by
  have hsz := tl_size s i
  unfold tokR
  by_cases h0 : 0 < iriR s i
  · rw [if_pos h0]
    have h1 := iri_tl s i
    rw [if_pos h0] at h1
    have h2 := iriR_ge h0
    unfold tokT
    rw [h1]
    simp; omega
  rw [if_neg h0]
  have hI : iriT (tl s i) = none := by rw [iri_tl, if_neg h0]
  unfold tokR2
  rw [wordsB_ff]
  by_cases c95 : bt s i = 95
  · by_cases h1 : bt s (i + 1 : Nat) = 58 ∧ 0 < cnt nameB s (i + 2)
    · rw [if_pos ⟨c95, h1⟩]
      have hB : blankT (tl s i) = some (3, s.extract (i + 2) (i + 2 + cnt nameB s (i + 2)), 2 + cnt nameB s (i + 2)) := by
        unfold blankT
        rw [if_pos ⟨(pre2 _ 95 58).2 ⟨by rw [tl_bt0, c95]; rfl, by rw [tl_bt1, h1.1]; rfl, by have := bt_lt h1.1 (by omega); omega⟩, by rw [tl_cnt]; exact h1.2⟩]
        rw [tl_cnt, tl_extract, Nat.add_assoc i 2]
      unfold tokT
      rw [hI, hB]
      simp; omega
    · rw [if_neg (fun h => h1 h.2)]
      have hB : blankT (tl s i) = none := by
        unfold blankT
        rw [if_neg]
        rintro ⟨h2, h3⟩
        rw [tl_cnt] at h3
        exact h1 ⟨by have := ((pre2 _ 95 58).1 h2).2.1; rw [tl_bt1] at this; simpa using this, h3⟩
      have e0 : bt (tl s i) 0 = 95 := by rw [tl_bt0, c95]
      rw [c95, if_neg (by rintro ⟨h | h, _⟩ <;> omega), if_neg (by rintro (h | h) <;> omega), if_neg (by rintro ⟨h, _⟩; omega), if_neg (by decide), if_neg (by rintro ⟨h | h, _⟩; exact absurd h (by decide); omega), if_neg (by decide)]
      unfold tokT
      rw [hI, hB, var_none (by rw [e0]; omega) (by rw [e0]; omega), text_none (by rw [e0]; omega) (by rw [e0]; omega), lang_none (by rw [e0]; omega), num_none (by rw [e0]; decide), name_none (by rw [e0]; decide) (by rw [e0]; omega), word_none (by rw [e0]; decide), sign_tl]
  have hB : blankT (tl s i) = none := blank_none (by rw [tl_bt0]; exact c95)
  rw [if_neg (fun h => c95 h.1)]
  by_cases c63 : bt s i = 63 ∨ bt s i = 36
  · cases e1 : letterB (bt s (i + 1 : Nat)) with
    | true =>
      rw [if_pos ⟨c63, rfl⟩]
      have hV : varT (tl s i) = some (4, s.extract (i + 1) (i + 1 + cnt nameB s (i + 1)), 1 + cnt nameB s (i + 1)) := by
        unfold varT
        rw [tl_bt0, tl_bt1, if_pos ⟨c63, e1⟩, tl_cnt, tl_extract, Nat.add_assoc i 1]
      unfold tokT
      rw [hI, hB, hV]
      simp; omega
    | false =>
      have hV : varT (tl s i) = none := by
        unfold varT
        rw [if_neg]
        rintro ⟨_, h⟩
        rw [tl_bt1, e1] at h
        simp at h
      have e0 := tl_bt0 s i
      rw [if_neg (fun h => by simp at h), if_neg (by omega), if_neg (by rintro ⟨h, _⟩; omega), if_neg (by rcases c63 with h | h <;> rw [h] <;> decide), if_neg (by rintro ⟨h | h, _⟩; rcases c63 with h2 | h2 <;> rw [h2] at h <;> exact absurd h (by decide); omega), if_neg (by rcases c63 with h | h <;> rw [h] <;> decide)]
      unfold tokT
      rw [hI, hB, hV, text_none (by rw [e0]; omega) (by rw [e0]; omega), lang_none (by rw [e0]; omega), num_none (by rw [e0]; rcases c63 with h | h <;> rw [h] <;> decide), name_none (by rw [e0]; rcases c63 with h | h <;> rw [h] <;> decide) (by rw [e0]; omega), word_none (by rw [e0]; rcases c63 with h | h <;> rw [h] <;> decide), sign_tl]
  have hV : varT (tl s i) = none := var_none (by rw [tl_bt0]; omega) (by rw [tl_bt0]; omega)
  rw [if_neg (fun h => c63 h.1)]
  by_cases c34 : bt s i = 34 ∨ bt s i = 39
  · rw [if_pos c34]
    have e0 := tl_bt0 s i
    have hT : textT (tl s i) = (textF (tl s i) (bt s i) ((tl s i).size + 1) 1 []).map fun r => (5, strOfNums r.1, r.2) := by
      unfold textT
      rw [e0, if_pos c34]
    rw [tl_text s _ i (by omega)]
    unfold tokT
    rw [hI, hB, hV, hT]
    cases h : textF (tl s i) (bt s i) ((tl s i).size + 1) 1 [] with
    | some r => rfl
    | none =>
      simp only [Option.map_none]
      rw [lang_none (by rw [e0]; omega), num_none (by rw [e0]; rcases c34 with h | h <;> rw [h] <;> decide), name_none (by rw [e0]; rcases c34 with h | h <;> rw [h] <;> decide) (by rw [e0]; omega), word_none (by rw [e0]; rcases c34 with h | h <;> rw [h] <;> decide), sign_none (by rw [e0]; exact c34)]
      rfl
  have hT : textT (tl s i) = none := text_none (by rw [tl_bt0]; omega) (by rw [tl_bt0]; omega)
  rw [if_neg c34]
  by_cases c64 : bt s i = 64
  · have e0 := tl_bt0 s i
    cases e1 : lowB (bt s (i + 1 : Nat)) with
    | true =>
      rw [if_pos ⟨c64, rfl⟩]
      have hL : langT (tl s i) = some (6, s.extract (i + 1) (i + 1 + cnt lowdB s (i + 1)), 1 + cnt lowdB s (i + 1)) := by
        unfold langT
        rw [tl_bt0, tl_bt1, if_pos ⟨c64, e1⟩, tl_cnt, tl_extract, Nat.add_assoc i 1]
      unfold tokT
      rw [hI, hB, hV, hT, hL]
      simp; omega
    | false =>
      have hL : langT (tl s i) = none := by
        unfold langT
        rw [if_neg]
        rintro ⟨_, h⟩
        rw [tl_bt1, e1] at h
        simp at h
      rw [if_neg (fun h => by simp at h), if_neg (by rw [c64]; decide), if_neg (by rintro ⟨h | h, _⟩; rw [c64] at h; exact absurd h (by decide); omega), if_neg (by rw [c64]; decide)]
      unfold tokT
      rw [hI, hB, hV, hT, hL, num_none (by rw [e0, c64]; decide), name_none (by rw [e0, c64]; decide) (by rw [e0]; omega), word_none (by rw [e0, c64]; decide), sign_tl]
  have hL : langT (tl s i) = none := lang_none (by rw [tl_bt0]; omega)
  rw [if_neg (fun h => c64 h.1)]
  cases eD : digitB (bt s i) with
  | true =>
    have hN := num_tl s i hi
    have hg := numR_le s i (by omega)
    rw [if_pos eD] at hN
    rw [if_pos rfl]
    unfold tokT
    rw [hI, hB, hV, hT, hL, hN]
    simp; omega
  | false =>
    have hN := num_tl s i hi
    rw [if_neg (by rw [eD]; simp)] at hN
    rw [if_neg (by simp)]
    have hM := name_tl s i
    by_cases h : (letterB (bt s i) = true ∨ bt s i = 58) ∧ 0 < nameR s i
    · have hg := nameR_le s i (by omega) h.2
      rw [if_pos h] at hM ⊢
      unfold tokT
      rw [hI, hB, hV, hT, hL, hN, hM]
      simp; omega
    · rw [if_neg h] at hM ⊢
      cases eL : letterB (bt s i) with
      | true =>
        have hW : wordT (tl s i) = some (8, s.extract i (i + cnt nameB s i), cnt nameB s i) := by
          unfold wordT
          rw [tl_bt0, if_pos eL, tl_cnt, tl_extract]
          rfl
        rw [if_pos rfl]
        unfold tokT
        rw [hI, hB, hV, hT, hL, hN, hM, hW]
        rfl
      | false =>
        have hW : wordT (tl s i) = none := word_none (by rw [tl_bt0]; exact eL)
        rw [if_neg (by simp)]
        unfold tokT
        rw [hI, hB, hV, hT, hL, hN, hM, hW, sign_tl]
end Go.Proofs.YtpgoemlnjocmhaaDoor.Lex
