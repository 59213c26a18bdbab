/-
  A part of the proof of LexTokens (whatever the input, the law returns true and the input reads as it did): the pieces of the drawn text. Conditions stand at each theorem.
-/
import Derived.Test.YtpgoemlnjocmhaaDoorLexP
namespace Go.Proofs.YtpgoemlnjocmhaaDoor.Lex
open Go.RowKit Go.Proofs.YtpgoemlnjocmhaaDoorW.PrintWords
set_option linter.unusedVariables false
set_option linter.unusedSimpArgs false

/-! The law's own functions. -/
set_option maxHeartbeats 800000 in
theorem within_any (a n : Int) (w : World) (hn : 0 < n) (hn2 : n ≤ 1000000) : Calls Tryd.prog 39 #[.int .i64 a, .int .i64 n] w fun e w' => e = .returned (.int .i64 (a % n)) ∧ w = w' := by
  have hm : Int.tmod a n = if 0 ≤ a ∨ a % n = 0 then a % n else a % n - n := by
    rw [Int.tmod_eq_emod]
    by_cases h : 0 ≤ a
    · simp [h]
    · by_cases h2 : n ∣ a
      · simp [h2, Int.emod_eq_zero_of_dvd h2]
      · have h3 : a % n ≠ 0 := fun h4 => h2 (Int.dvd_of_emod_eq_zero h4)
        rw [if_neg (by simp [h, h2]), if_neg (by simp [h, h3])]
        rw [Int.natAbs_of_nonneg (by omega)]
  have h1 := Int.emod_nonneg a (show n ≠ 0 by omega)
  have h2 := Int.emod_lt_of_pos a hn
  have hne : (n == 0) = false := beq_eq_false_iff_ne.2 (by omega)
  have hne2 : ¬ n = 0 := by omega
  by_cases hs : 0 ≤ a ∨ a % n = 0
  · rw [if_pos hs] at hm
    have HM := Lib.hid hm
    clear hs
    generalize hq : a % n = q at *
    generalize hp : Int.tmod a n = p at *
    have HP := Lib.hid hp
    have hpq : 0 ≤ p := by have := HM.out; omega
    clear hm hp hq
    have e1 : Int.tmod a n = p := HP.out
    go_enter Tryd.func39, Tryd.ntmps39
    go_wp2
    go_ret
    exact ⟨by rw [← HM.out]; rfl, rfl⟩
  · rw [if_neg hs] at hm
    have HM := Lib.hid hm
    clear hs
    generalize hq : a % n = q at *
    generalize hp : Int.tmod a n = p at *
    have HP := Lib.hid hp
    have hpq : p < 0 := by have := HM.out; omega
    have hpn : 0 ≤ p + n := by have := HM.out; omega
    have hpl : -1000000 ≤ p := by have := HM.out; omega
    clear hm hp hq
    have e1 : Int.tmod a n = p := HP.out
    go_enter Tryd.func39, Tryd.ntmps39
    go_wp2
    go_ret
    exact ⟨by have := HM.out; rw [show q = p + n by omega]; rfl, rfl⟩

def pieces : List ByteArray := [(⟨#[60, 97, 62]⟩ : ByteArray), (⟨#[60, 104, 116, 116, 112, 58, 47, 47, 120, 47, 121, 62]⟩ : ByteArray), (⟨#[120, 58, 121]⟩ : ByteArray), (⟨#[58, 122]⟩ : ByteArray), (⟨#[95, 58, 98, 49]⟩ : ByteArray), (⟨#[63, 118]⟩ : ByteArray), (⟨#[36, 119]⟩ : ByteArray), (⟨#[34, 116, 92, 110, 34]⟩ : ByteArray), (⟨#[39, 117, 39]⟩ : ByteArray), (⟨#[64, 101, 110]⟩ : ByteArray), (⟨#[49, 50]⟩ : ByteArray), (⟨#[51, 46, 53, 48]⟩ : ByteArray), (⟨#[83, 69, 76, 69, 67, 84]⟩ : ByteArray), (⟨#[97]⟩ : ByteArray), (⟨#[116, 114, 117, 101]⟩ : ByteArray), (⟨#[38, 38]⟩ : ByteArray), (⟨#[124, 124]⟩ : ByteArray), (⟨#[33, 61]⟩ : ByteArray), (⟨#[60, 61]⟩ : ByteArray), (⟨#[62, 61]⟩ : ByteArray), (⟨#[94, 94]⟩ : ByteArray), (⟨#[123]⟩ : ByteArray), (⟨#[125]⟩ : ByteArray), (⟨#[40]⟩ : ByteArray), (⟨#[41]⟩ : ByteArray), (⟨#[91]⟩ : ByteArray), (⟨#[93]⟩ : ByteArray), (⟨#[46]⟩ : ByteArray), (⟨#[59]⟩ : ByteArray), (⟨#[44]⟩ : ByteArray), (⟨#[61]⟩ : ByteArray), (⟨#[60]⟩ : ByteArray), (⟨#[62]⟩ : ByteArray), (⟨#[33]⟩ : ByteArray), (⟨#[43]⟩ : ByteArray), (⟨#[45]⟩ : ByteArray), (⟨#[42]⟩ : ByteArray), (⟨#[47]⟩ : ByteArray), (⟨#[124]⟩ : ByteArray), (⟨#[94]⟩ : ByteArray), (⟨#[63]⟩ : ByteArray), (⟨#[32]⟩ : ByteArray), (⟨#[10]⟩ : ByteArray), (⟨#[35, 32, 99, 10]⟩ : ByteArray), (⟨#[34]⟩ : ByteArray), (⟨#[120, 58]⟩ : ByteArray), (⟨#[120, 58, 121, 46]⟩ : ByteArray), (⟨#[49, 46]⟩ : ByteArray), (⟨#[60, 97, 32, 98, 62]⟩ : ByteArray), (⟨#[95, 58]⟩ : ByteArray), (⟨#[64]⟩ : ByteArray), (⟨#[92]⟩ : ByteArray), (⟨#[38]⟩ : ByteArray), (⟨#[195, 169]⟩ : ByteArray)]
/-- A text of at most so many bytes is answered. -/
def StrPost (b : Nat) (w : World) (e : Ending) (w' : World) : Prop := ∃ t : ByteArray, e = .returned (.string t) ∧ t.size ≤ b ∧ Below w.heap.size w w'
theorem piece_cell (w : World) (k : Nat) (hk : k < 54) : ∃ t : ByteArray, t.size ≤ 20 ∧ (w.alloc (.cells (pieces.map Value.string).toArray 9 (0, 0))).cell? ⟨w.heap.size, k, none⟩ = some (.string t) := by
  refine ⟨pieces.getD k ⟨#[]⟩, ?_, ?_⟩
  · have key : ∀ i : Fin 54, (pieces.getD i.val ⟨#[]⟩).size ≤ 20 := by decide +kernel
    exact key ⟨k, hk⟩
  · rw [blk_cell (heap_alloc_new w _) k]
    have hl : k < pieces.length := hk
    simp [List.getElem?_eq_getElem hl, List.getD_eq_getElem?_getD]
set_option maxHeartbeats 4000000 in
set_option maxRecDepth 100000 in
theorem piece_any (n : Int) (w : World) : Calls Tryd.prog 18 #[.int .i64 n] w (StrPost 20 w) := by
  have h1 := Int.emod_nonneg n (show (54 : Int) ≠ 0 by omega)
  have h2 := Int.emod_lt_of_pos n (show (0 : Int) < 54 by omega)
  have HW := Lib.hid (fun W => within_any n 54 W (by omega) (by omega))
  generalize n % 54 = m at *
  obtain ⟨t, ht, hc⟩ := piece_cell w m.toNat (by omega)
  have hc1 : (w.alloc (.cells #[.string ⟨#[60, 97, 62]⟩, .string ⟨#[60, 104, 116, 116, 112, 58, 47, 47, 120, 47, 121, 62]⟩, .string ⟨#[120, 58, 121]⟩, .string ⟨#[58, 122]⟩, .string ⟨#[95, 58, 98, 49]⟩, .string ⟨#[63, 118]⟩, .string ⟨#[36, 119]⟩, .string ⟨#[34, 116, 92, 110, 34]⟩, .string ⟨#[39, 117, 39]⟩, .string ⟨#[64, 101, 110]⟩, .string ⟨#[49, 50]⟩, .string ⟨#[51, 46, 53, 48]⟩, .string ⟨#[83, 69, 76, 69, 67, 84]⟩, .string ⟨#[97]⟩, .string ⟨#[116, 114, 117, 101]⟩, .string ⟨#[38, 38]⟩, .string ⟨#[124, 124]⟩, .string ⟨#[33, 61]⟩, .string ⟨#[60, 61]⟩, .string ⟨#[62, 61]⟩, .string ⟨#[94, 94]⟩, .string ⟨#[123]⟩, .string ⟨#[125]⟩, .string ⟨#[40]⟩, .string ⟨#[41]⟩, .string ⟨#[91]⟩, .string ⟨#[93]⟩, .string ⟨#[46]⟩, .string ⟨#[59]⟩, .string ⟨#[44]⟩, .string ⟨#[61]⟩, .string ⟨#[60]⟩, .string ⟨#[62]⟩, .string ⟨#[33]⟩, .string ⟨#[43]⟩, .string ⟨#[45]⟩, .string ⟨#[42]⟩, .string ⟨#[47]⟩, .string ⟨#[124]⟩, .string ⟨#[94]⟩, .string ⟨#[63]⟩, .string ⟨#[32]⟩, .string ⟨#[10]⟩, .string ⟨#[35, 32, 99, 10]⟩, .string ⟨#[34]⟩, .string ⟨#[120, 58]⟩, .string ⟨#[120, 58, 121, 46]⟩, .string ⟨#[49, 46]⟩, .string ⟨#[60, 97, 32, 98, 62]⟩, .string ⟨#[95, 58]⟩, .string ⟨#[64]⟩, .string ⟨#[92]⟩, .string ⟨#[38]⟩, .string ⟨#[195, 169]⟩] 9 (0, 0))).cell? ⟨w.heap.size, m.toNat, none⟩ = some (.string t) := hc
  have HB := Lib.hid ((Below.refl w.heap.size w).alloc (Nat.le_refl _) (.cells #[.string ⟨#[60, 97, 62]⟩, .string ⟨#[60, 104, 116, 116, 112, 58, 47, 47, 120, 47, 121, 62]⟩, .string ⟨#[120, 58, 121]⟩, .string ⟨#[58, 122]⟩, .string ⟨#[95, 58, 98, 49]⟩, .string ⟨#[63, 118]⟩, .string ⟨#[36, 119]⟩, .string ⟨#[34, 116, 92, 110, 34]⟩, .string ⟨#[39, 117, 39]⟩, .string ⟨#[64, 101, 110]⟩, .string ⟨#[49, 50]⟩, .string ⟨#[51, 46, 53, 48]⟩, .string ⟨#[83, 69, 76, 69, 67, 84]⟩, .string ⟨#[97]⟩, .string ⟨#[116, 114, 117, 101]⟩, .string ⟨#[38, 38]⟩, .string ⟨#[124, 124]⟩, .string ⟨#[33, 61]⟩, .string ⟨#[60, 61]⟩, .string ⟨#[62, 61]⟩, .string ⟨#[94, 94]⟩, .string ⟨#[123]⟩, .string ⟨#[125]⟩, .string ⟨#[40]⟩, .string ⟨#[41]⟩, .string ⟨#[91]⟩, .string ⟨#[93]⟩, .string ⟨#[46]⟩, .string ⟨#[59]⟩, .string ⟨#[44]⟩, .string ⟨#[61]⟩, .string ⟨#[60]⟩, .string ⟨#[62]⟩, .string ⟨#[33]⟩, .string ⟨#[43]⟩, .string ⟨#[45]⟩, .string ⟨#[42]⟩, .string ⟨#[47]⟩, .string ⟨#[124]⟩, .string ⟨#[94]⟩, .string ⟨#[63]⟩, .string ⟨#[32]⟩, .string ⟨#[10]⟩, .string ⟨#[35, 32, 99, 10]⟩, .string ⟨#[34]⟩, .string ⟨#[120, 58]⟩, .string ⟨#[120, 58, 121, 46]⟩, .string ⟨#[49, 46]⟩, .string ⟨#[60, 97, 32, 98, 62]⟩, .string ⟨#[95, 58]⟩, .string ⟨#[64]⟩, .string ⟨#[92]⟩, .string ⟨#[38]⟩, .string ⟨#[195, 169]⟩] 9 (0, 0)))
  clear hc
  go_enter Tryd.func18, Tryd.ntmps18
  go_wp2_with ((with_reducible refine (HW.out _).mono ?_); rintro e w' ⟨rfl, rfl⟩)
  go_ret
  exact ⟨t, rfl, ht, HB.out⟩
end Go.Proofs.YtpgoemlnjocmhaaDoor.Lex
