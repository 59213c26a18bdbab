/-
  A part of the proof of LexTokens (whatever the input, the law returns true and the input reads as it did): the reference: what one call tells. Conditions stand at each theorem.
-/
import Derived.Test.YtpgoemlnjocmhaaDoorLexN
namespace Go.Proofs.YtpgoemlnjocmhaaDoor.Lex
open Go.RowKit Go.Proofs.YtpgoemlnjocmhaaDoorW.PrintWords
set_option linter.unusedVariables false
set_option linter.unusedSimpArgs false

/-- A TSign at a place. -/
def tokS (s : ByteArray) (i : Nat) : Option (Int × ByteArray × Nat) :=
  if signR (s.extract i s.size) = 0 then none
  else some (9, s.extract i (i + signR (s.extract i s.size)), i + signR (s.extract i s.size))
theorem signR_le (s : ByteArray) (i : Nat) (hi : i < s.size) : i + signR (s.extract i s.size) ≤ s.size := by
  have hz : (s.extract i s.size).size = s.size - i := by simp
  unfold signR
  split
  · rename_i p hp
    have h1 := List.find?_some hp
    have h2 := hasPrefix_len h1
    have h3 := List.mem_of_find?_eq_some hp
    have h4 : p.length = 2 := by simp [twos] at h3; rcases h3 with rfl | rfl | rfl | rfl | rfl | rfl <;> rfl
    rw [show (s.extract i s.size).data.toList.length = (s.extract i s.size).size by simp] at h2
    omega
  · split <;> omega
theorem numR_le (s : ByteArray) (i : Nat) (hi : i ≤ s.size) : i ≤ numR s i ∧ numR s i ≤ s.size := by
  have h1 := cnt_le digitB s i
  unfold numR
  split
  · rename_i h
    have h2 := bt_lt h.1 (by omega)
    have h3 := cnt_le digitB s (i + cnt digitB s i + 1)
    omega
  · omega
theorem nameR_le (s : ByteArray) (i : Nat) (hi : i ≤ s.size) (h0 : 0 < nameR s i) : i ≤ nameR s i ∧ nameR s i ≤ s.size := by
  have hk : i ≤ nameKR s i := by unfold nameKR; split <;> omega
  unfold nameR at h0 ⊢
  split at h0
  · rename_i h
    rw [if_pos h]
    have h2 := bt_lt h (by omega)
    have h3 := cnt_le (wordsB true true) s (nameKR s i + 1)
    have h4 := undot_gt s (nameKR s i) h (nameKR s i + 1 + cnt (wordsB true true) s (nameKR s i + 1)) (by omega)
    have h5 := undot_le s (nameKR s i + 1 + cnt (wordsB true true) s (nameKR s i + 1))
    omega
  · omega
/-- The token at a place, that is no TIri. -/
def tokR2 (s : ByteArray) (i : Nat) : Option (Int × ByteArray × Nat) :=
  if bt s i = 95 ∧ bt s (i + 1 : Nat) = 58 ∧ 0 < cnt (wordsB false false) s (i + 2) then some (3, s.extract (i + 2) (i + 2 + cnt (wordsB false false) s (i + 2)), i + 2 + cnt (wordsB false false) s (i + 2))
  else if (bt s i = 63 ∨ bt s i = 36) ∧ letterB (bt s (i + 1 : Nat)) = true then some (4, s.extract (i + 1) (i + 1 + cnt (wordsB false false) s (i + 1)), i + 1 + cnt (wordsB false false) s (i + 1))
  else if bt s i = 34 ∨ bt s i = 39 then (textF s (bt s i) (s.size + 1) (i + 1) []).map fun r => (5, strOfNums r.1, r.2)
  else if bt s i = 64 ∧ lowB (bt s (i + 1 : Nat)) = true then some (6, s.extract (i + 1) (i + 1 + cnt lowdB s (i + 1)), i + 1 + cnt lowdB s (i + 1))
  else if digitB (bt s i) = true then some (7, s.extract i (numR s i), numR s i)
  else if (letterB (bt s i) = true ∨ bt s i = 58) ∧ 0 < nameR s i then some (2, s.extract i (nameR s i), nameR s i)
  else if letterB (bt s i) = true then some (8, s.extract i (i + cnt (wordsB false false) s i), i + cnt (wordsB false false) s i)
  else tokS s i
/-- The token at a place, and behind it. -/
def tokR (s : ByteArray) (i : Nat) : Option (Int × ByteArray × Nat) :=
  if 0 < iriR s i then some (1, s.extract (i + 1) (iriR s i - 1), iriR s i) else tokR2 s i
end Go.Proofs.YtpgoemlnjocmhaaDoor.Lex
