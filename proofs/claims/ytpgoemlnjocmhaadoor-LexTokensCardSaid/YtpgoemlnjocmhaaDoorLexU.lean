/-
  A part of the proof of LexTokens (whatever the input, the law returns true and the input reads as it did): the drawn text. Conditions stand at each theorem.
-/
import Derived.Test.YtpgoemlnjocmhaaDoorLexT
namespace Go.Proofs.YtpgoemlnjocmhaaDoor.Lex
open Go.RowKit Go.Proofs.YtpgoemlnjocmhaaDoorW.PrintWords
set_option linter.unusedVariables false
set_option linter.unusedSimpArgs false

/-- A row of numbers is there to be read. -/
def NumRow (w : World) (a : Option Addr) (len : Nat) : Prop := ∀ i, i < len → ∃ (x : Addr) (v : Int), a = some x ∧ w.cell? (x.add i) = some (.int .i64 v)
theorem NumRow.below {w w1 : World} {a : Option Addr} {len : Nat} (h : NumRow w a len) (hb : Below w.heap.size w w1) : NumRow w1 a len := fun i hi => by
  obtain ⟨x, v, he, hc⟩ := h i hi
  exact ⟨x, v, he, (hb.cell (World.block_lt_of_cell? w _ hc)).trans hc⟩
set_option maxHeartbeats 8000000 in
set_option maxRecDepth 100000 in
theorem ltext_any (a : Option Addr) (len cap : Nat) (raw : ByteArray) (w : World) (hl : len ≤ 140737488351232) (hr : raw.size ≤ 100) (hN : NumRow w a len) :
    Calls Tryd.prog 6 #[.slice a len cap, .string raw] w (StrPost 4840 w) := by
  have HN := Lib.hid hN
  clear hN
  have hw : wrap64 ((len : Int) / 2) = (len : Int) / 2 := by unfold wrap64; omega
  have HW := Lib.hid hw
  clear hw
  go_enter Tryd.func6, Tryd.ntmps6
  go_wp2
  go_loopw [5, 6] (fun v5 v6 wr => ∃ (i : Nat) (s : ByteArray), v6 = .int .i64 i ∧ i ≤ len ∧ i ≤ 40 ∧ v5 = .string s ∧ s.size ≤ 121 * i ∧ Hid (Below w.heap.size w wr)) (fun _ v6 _ => 40 - (intOf v6).toNat)
  case atStart => exact ⟨0, _, rfl, by omega, by omega, rfl, by decide, Lib.hid (Below.refl _ _)⟩
  case round =>
    obtain ⟨i, s, rfl, hi1, hi2, rfl, hs, HB⟩ := hrel
    have hw := HW.out
    by_cases h1 : i < len
    · by_cases h2 : i < 40
      · obtain ⟨x, v, rfl, hc⟩ := (HN.out.below HB.out) i h1
        have hlt := World.block_lt_of_cell? wr _ hc
        have HP := Lib.hid (fun W => piece_any v W)
        have k1 : s.size + raw.size ≤ 9223372036854775807 := by omega
        by_cases h3 : (i : Int) = (len : Int) / 2
        · have b3 : ((i : Int) == (len : Int) / 2) = true := beq_iff_eq.2 h3
          clear h3
          by_cases h4 : 0 < Int.tmod v 3
          · go_wp2_with ((with_reducible refine (HP.out _).mono ?_); rintro e w2 ⟨t, rfl, ht, hb2⟩; have k2 : s.size + raw.size + t.size ≤ 9223372036854775807 := (by omega); have k3 : s.size + raw.size + t.size + 1 ≤ 9223372036854775807 := (by omega); have hc2 := (hb2.cell hlt).trans hc; have HB2 := Lib.hid (HB.out.trans (hb2.mono HB.out.size)))
            go_roundw
            case rel => exact ⟨i + 1, _, by go_num, by omega, by omega, rfl, by have h32 : (⟨#[32]⟩ : ByteArray).size = 1 := rfl; simp; omega, HB2⟩
            case measure => simp [intOf]; omega
          · go_wp2_with ((with_reducible refine (HP.out _).mono ?_); rintro e w2 ⟨t, rfl, ht, hb2⟩; have k2 : s.size + raw.size + t.size ≤ 9223372036854775807 := (by omega); have k3 : s.size + raw.size + t.size + 1 ≤ 9223372036854775807 := (by omega); have hc2 := (hb2.cell hlt).trans hc; have HB2 := Lib.hid (HB.out.trans (hb2.mono HB.out.size)))
            go_roundw
            case rel => exact ⟨i + 1, _, by go_num, by omega, by omega, rfl, by have h32 : (⟨#[32]⟩ : ByteArray).size = 1 := rfl; simp; omega, HB2⟩
            case measure => simp [intOf]; omega
        · have b3 : ((i : Int) == (len : Int) / 2) = false := beq_eq_false_iff_ne.2 h3
          clear h3
          by_cases h4 : 0 < Int.tmod v 3
          · go_wp2_with ((with_reducible refine (HP.out _).mono ?_); rintro e w2 ⟨t, rfl, ht, hb2⟩; have k2 : s.size + t.size ≤ 9223372036854775807 := (by omega); have k3 : s.size + t.size + 1 ≤ 9223372036854775807 := (by omega); have hc2 := (hb2.cell hlt).trans hc; have HB2 := Lib.hid (HB.out.trans (hb2.mono HB.out.size)))
            go_roundw
            case rel => exact ⟨i + 1, _, by go_num, by omega, by omega, rfl, by have h32 : (⟨#[32]⟩ : ByteArray).size = 1 := rfl; simp; omega, HB2⟩
            case measure => simp [intOf]; omega
          · go_wp2_with ((with_reducible refine (HP.out _).mono ?_); rintro e w2 ⟨t, rfl, ht, hb2⟩; have k2 : s.size + t.size ≤ 9223372036854775807 := (by omega); have k3 : s.size + t.size + 1 ≤ 9223372036854775807 := (by omega); have hc2 := (hb2.cell hlt).trans hc; have HB2 := Lib.hid (HB.out.trans (hb2.mono HB.out.size)))
            go_roundw
            case rel => exact ⟨i + 1, _, by go_num, by omega, by omega, rfl, by have h32 : (⟨#[32]⟩ : ByteArray).size = 1 := rfl; simp; omega, HB2⟩
            case measure => simp [intOf]; omega
      · obtain rfl : i = 40 := by omega
        go_wp2
        go_ret
        exact ⟨s, rfl, by omega, HB.out⟩
    · by_cases h2 : i < 40
      all_goals
        go_wp2
        go_ret
        exact ⟨s, rfl, by omega, HB.out⟩
end Go.Proofs.YtpgoemlnjocmhaaDoor.Lex
