/-
  A part of the proof of LexTokens (whatever the input, the law returns true and the input reads as it did): the reference: numbers and names. Conditions stand at each theorem.
-/
import Derived.Test.YtpgoemlnjocmhaaDoorLexK
namespace Go.Proofs.YtpgoemlnjocmhaaDoor.Lex
open Go.RowKit Go.Proofs.YtpgoemlnjocmhaaDoorW.PrintWords
set_option linter.unusedVariables false
set_option linter.unusedSimpArgs false

/-- Behind a TNum. -/
def numR (s : ByteArray) (i : Nat) : Nat :=
  if bt s (i + cnt digitB s i : Nat) = 46 ∧ digitB (bt s (i + cnt digitB s i + 1 : Nat)) = true then i + cnt digitB s i + 1 + cnt digitB s (i + cnt digitB s i + 1) else i + cnt digitB s i
set_option maxHeartbeats 4000000 in
set_option maxRecDepth 100000 in
theorem rnumber_any (s : ByteArray) (i : Nat) (w : World) (hs : s.size ≤ 140737488351232) (hi : i ≤ s.size) :
    Calls Tryd.prog 62 #[.string s, .int .i64 i] w fun e w' => e = .returned (.int .i64 (numR s i)) ∧ w = w' := by
  have hle0 := cnt_le digitB s i
  have HD := Lib.hid (show numR s i = if bt s (i + cnt digitB s i : Nat) = 46 ∧ digitB (bt s (i + cnt digitB s i + 1 : Nat)) = true then i + cnt digitB s i + 1 + cnt digitB s (i + cnt digitB s i + 1) else i + cnt digitB s i from rfl)
  generalize numR s i = r at *
  go_enter Tryd.func62, Tryd.ntmps62
  go_wp2
  go_loop [1] (fun v => ∃ k : Nat, v = .int .i64 k ∧ i ≤ k ∧ k ≤ s.size ∧ Hid (i + cnt digitB s i = k + cnt digitB s k)) (fun v => s.size - (intOf v).toNat)
  case atStart => exact ⟨i, by go_num, by omega, by omega, Lib.hid rfl⟩
  case round =>
    obtain ⟨k, rfl, hk1, hk2, HR⟩ := hrel
    by_cases hlt : k < s.size
    · have hx : ∀ h : k < s.size, ((s[k]'h).toNat : Int) = bt s k := fun h => by simp [bt, h]
      have hsg := rdigit_any (bt s k) w
      cases hp : digitB (bt s k) with
      | true =>
        rw [hp] at hsg
        have HS := Lib.hid hsg
        have HN := Lib.hid (cnt_yes digitB s k hlt hp)
        clear hsg hp
        go_wp2_with (first | ((with_reducible refine HS.out.mono ?_); rintro e w' ⟨rfl, rfl⟩))
        go_round
        case rel => exact ⟨k + 1, by go_num, by omega, by omega, Lib.hid (by have := HR.out; have := HN.out; omega)⟩
        case measure => simp [intOf]; omega
      | false =>
        rw [hp] at hsg
        have HS := Lib.hid hsg
        have hn := cnt_no digitB s k hlt hp
        have HK := Lib.hid (show i + cnt digitB s i = k by have := HR.out; omega)
        rw [HK.out] at HD
        clear hsg hp hn
        by_cases e0 : k + 1 < s.size
        · have ec : ((k + 1 : Nat) : Int) = (k : Int) + 1 := by omega
          rw [ec] at HD
          have hx1 : ∀ h : k + 1 < s.size, ((s[k + 1]'h).toNat : Int) = bt s ((k : Int) + 1) := fun h => by rw [← ec]; simp only [bt, Int.toNat_natCast, h, dite_true]
          clear ec
          by_cases e1 : bt s k = 46
          · have b1 : (bt s k == 46) = true := by rw [e1]; rfl
            have hsg := rdigit_any (bt s ((k : Int) + 1)) w
            cases hp : digitB (bt s ((k : Int) + 1)) with
            | true =>
              have HZ := Lib.hid (show r = k + 1 + cnt digitB s (k + 1) by rw [HD.out, if_pos ⟨e1, hp⟩])
              rw [hp] at hsg
              have HS1 := Lib.hid hsg
              have hle1 := cnt_le digitB s (k + 1)
              clear hsg e1 hp
              go_wp2_with (first | ((with_reducible refine HS.out.mono ?_); rintro e w' ⟨rfl, rfl⟩) | ((with_reducible refine HS1.out.mono ?_); rintro e w' ⟨rfl, rfl⟩))
              go_loop [1] (fun v => ∃ j : Nat, v = .int .i64 j ∧ k + 1 ≤ j ∧ j ≤ s.size ∧ Hid (k + 1 + cnt digitB s (k + 1) = j + cnt digitB s j)) (fun v => s.size - (intOf v).toNat)
              case atStart => exact ⟨k + 1, by go_num, by omega, by omega, Lib.hid rfl⟩
              case round =>
                clear HR hx hx1 b1
                obtain ⟨j, rfl, hj1, hj2, HR⟩ := hrel
                by_cases hlt2 : j < s.size
                · have hx : ∀ h : j < s.size, ((s[j]'h).toNat : Int) = bt s j := fun h => by simp [bt, h]
                  have hsg := rdigit_any (bt s j) w
                  cases hp : digitB (bt s j) with
                  | true =>
                    rw [hp] at hsg
                    have HS2 := Lib.hid hsg
                    have HN := Lib.hid (cnt_yes digitB s j hlt2 hp)
                    clear hsg hp
                    go_wp2_with (first | ((with_reducible refine HS2.out.mono ?_); rintro e w' ⟨rfl, rfl⟩))
                    go_round
                    case rel => exact ⟨j + 1, by go_num, by omega, by omega, Lib.hid (by have := HR.out; have := HN.out; omega)⟩
                    case measure => simp [intOf]; omega
                  | false =>
                    rw [hp] at hsg
                    have HS2 := Lib.hid hsg
                    have HN := Lib.hid (cnt_no digitB s j hlt2 hp)
                    clear hsg hp
                    go_wp2_with (first | ((with_reducible refine HS2.out.mono ?_); rintro e w' ⟨rfl, rfl⟩))
                    go_ret
                    exact ⟨by have := HR.out; have := HN.out; rw [HZ.out]; simp; omega, rfl⟩
                · have HN := Lib.hid (cnt_end digitB s j hlt2)
                  go_wp2
                  go_ret
                  exact ⟨by have := HR.out; have := HN.out; rw [HZ.out]; simp; omega, rfl⟩
            | false =>
              have HZ := Lib.hid (show r = k by rw [HD.out, if_neg (fun h => absurd (hp.symm.trans h.2) (by simp))])
              rw [hp] at hsg
              have HS1 := Lib.hid hsg
              clear hsg e1 hp
              go_wp2_with (first | ((with_reducible refine HS.out.mono ?_); rintro e w' ⟨rfl, rfl⟩) | ((with_reducible refine HS1.out.mono ?_); rintro e w' ⟨rfl, rfl⟩))
              go_ret
              exact ⟨by rw [HZ.out]; rfl, rfl⟩
          · have HZ := Lib.hid (show r = k by rw [HD.out, if_neg (fun h => e1 h.1)])
            have b1 : (bt s k == 46) = false := beq_eq_false_iff_ne.2 e1
            clear e1
            go_wp2_with (first | ((with_reducible refine HS.out.mono ?_); rintro e w' ⟨rfl, rfl⟩))
            go_ret
            exact ⟨by rw [HZ.out]; rfl, rfl⟩
        · have HZ := Lib.hid (show r = k by rw [HD.out, if_neg (fun h => absurd (bt_lt' (i := k + 1) h.2 (by decide)) (by omega))])
          go_wp2_with (first | ((with_reducible refine HS.out.mono ?_); rintro e w' ⟨rfl, rfl⟩))
          go_ret
          exact ⟨by rw [HZ.out]; rfl, rfl⟩
    · obtain rfl : k = s.size := by omega
      have hn := cnt_end digitB s s.size (by omega)
      have HK := Lib.hid (show i + cnt digitB s i = s.size by have := HR.out; omega)
      rw [HK.out] at HD
      have HZ := Lib.hid (show r = s.size by rw [HD.out, if_neg (fun h => absurd (bt_lt h.1 (by omega)) (by omega))])
      clear hn
      go_wp2
      go_ret
      exact ⟨by rw [HZ.out]; rfl, rfl⟩

/-- Where a TName's colon stands. -/
def nameKR (s : ByteArray) (i : Nat) : Nat := if letterB (bt s i) = true then i + cnt (wordsB true false) s i else i
def nameR (s : ByteArray) (i : Nat) : Nat := if bt s (nameKR s i) = 58 then undot s (nameKR s i + 1 + cnt (wordsB true true) s (nameKR s i + 1)) else 0
set_option maxHeartbeats 4000000 in
set_option maxRecDepth 100000 in
theorem rname_any (s : ByteArray) (i : Nat) (w : World) (hs : s.size ≤ 140737488351232) (hi : i < s.size) :
    Calls Tryd.prog 63 #[.string s, .int .i64 i] w fun e w' => e = .returned (.int .i64 (nameR s i)) ∧ w = w' := by
  have hxi : ∀ h : i < s.size, ((s[i]'h).toNat : Int) = bt s i := fun h => by simp [bt, h]
  have hlet := rletter_any (bt s i) w
  have hrow := rwords_any s i true false w hs (by omega)
  have hle := cnt_le (wordsB true false) s i
  have hkd : nameKR s i = if letterB (bt s i) = true then i + cnt (wordsB true false) s i else i := rfl
  have hkle : nameKR s i ≤ s.size := by rw [hkd]; split <;> omega
  have HD := Lib.hid (show nameR s i = if bt s (nameKR s i) = 58 then undot s (nameKR s i + 1 + cnt (wordsB true true) s (nameKR s i + 1)) else 0 from rfl)
  generalize nameR s i = r at *
  generalize nameKR s i = k at *
  have hrow2 := fun h => rwords_any s (k + 1) true true w hs h
  have HKD := Lib.hid hkd
  have HR := Lib.hid hrow
  have HR2 := Lib.hid hrow2
  have hxk : ∀ h : k < s.size, ((s[k]'h).toNat : Int) = bt s k := fun h => by simp [bt, h]
  clear hrow hkd hrow2
  by_cases hk : bt s k = 58
  · have hl := bt_lt hk (by omega)
    have HX0 := Lib.hid (HR2.out (by omega))
    have hle2 := cnt_le (wordsB true true) s (k + 1)
    have HU := Lib.hid (undot_gt s k hk)
    rw [if_pos hk] at HD
    obtain ⟨m, hm⟩ : ∃ m, m = k + 1 + cnt (wordsB true true) s (k + 1) := ⟨_, rfl⟩
    have hm1 : m ≤ s.size := by omega
    have hm2 : k < m := by omega
    have HX := Lib.hid (show Calls Tryd.prog 57 #[.string s, .int .i64 ((k : Int) + 1), .bool true, .bool true] w fun e w' => e = .returned (.int .i64 (m : Int)) ∧ w = w' by have h := HX0.out; rw [← hm] at h; exact h)
    rw [← hm] at HD
    clear hle2 hm HX0 HR2
    have HE := Lib.hid hk
    have b0 : (bt s k != 58) = false := by rw [hk]; rfl
    cases e0 : letterB (bt s i) with
    | true =>
      have HKD2 := Lib.hid (show i + cnt (wordsB true false) s i = k by rw [HKD.out, e0]; rfl)
      rw [HKD2.out] at HR
      rw [e0] at hlet
      have HL := Lib.hid hlet
      clear hk e0 hlet
      go_enter Tryd.func63, Tryd.ntmps63
      go_wp2_with (first | ((with_reducible refine HR.out.mono ?_); rintro e w' ⟨rfl, rfl⟩) | ((with_reducible refine HL.out.mono ?_); rintro e w' ⟨rfl, rfl⟩) | ((with_reducible refine HX.out.mono ?_); rintro e w' ⟨rfl, rfl⟩))
      go_loop [5] (fun v => ∃ j : Int, v = .int .i64 j ∧ k < j ∧ j ≤ m ∧ Hid (undot s j.toNat = undot s m)) (fun v => (intOf v).toNat)
      case atStart => exact ⟨m, by first | rfl | go_num, by omega, by omega, Lib.hid (by rw [Int.toNat_natCast])⟩
      case round =>
        obtain ⟨j, rfl, hj1, hj2, HJ⟩ := hrel
        have hx : ∀ h : j.toNat - 1 < s.size, ((s[j.toNat - 1]'h).toNat : Int) = bt s (j - 1) := fun h => by simp [bt, show (j - 1).toNat = j.toNat - 1 by omega, h]
        have p1 : 0 ≤ j - 1 := by omega
        have p2 : 1 ≤ j := by omega
        have p3 : j - 1 < s.size := by omega
        have hun : undot s j.toNat = if bt s (j - 1) = 46 then undot s (j.toNat - 1) else j.toNat := by
          obtain ⟨i, rfl⟩ : ∃ i : Nat, j = (i : Int) + 1 := ⟨(j - 1).toNat, by omega⟩
          simp [undot, show ((i : Int) + 1).toNat = i + 1 by omega]
        by_cases e1 : bt s (j - 1) = 46
        · rw [if_pos e1] at hun
          have b1 : (bt s (j - 1) == 46) = true := by simpa using e1
          have HE2 := Lib.hid (show (k : Int) ≠ j - 1 from fun h => by have := HE.out; rw [h] at this; omega)
          have HUN := Lib.hid hun
          clear e1 hun
          go_wp2
          go_round
          case rel => exact ⟨j - 1, by go_num, by have := HE2.out; omega, by omega, Lib.hid (by rw [← HJ.out, HUN.out, show (j - 1).toNat = j.toNat - 1 by omega])⟩
          case measure => simp [intOf]; omega
        · rw [if_neg e1] at hun
          have b1 : (bt s (j - 1) == 46) = false := by simpa using e1
          have HX := Lib.hid (show r = j.toNat by rw [HD.out, ← HJ.out, hun])
          clear e1 hun
          go_wp2
          go_ret
          exact ⟨by rw [HX.out, Int.toNat_of_nonneg (by omega)]; rfl, rfl⟩
    | false =>
      have HKD2 := Lib.hid (show k = i by rw [HKD.out, e0]; rfl)
      obtain rfl := HKD2.out
      rw [e0] at hlet
      have HL := Lib.hid hlet
      clear hk e0 hlet
      go_enter Tryd.func63, Tryd.ntmps63
      go_wp2_with (first | ((with_reducible refine HL.out.mono ?_); rintro e w' ⟨rfl, rfl⟩) | ((with_reducible refine HX.out.mono ?_); rintro e w' ⟨rfl, rfl⟩))
      go_loop [5] (fun v => ∃ j : Int, v = .int .i64 j ∧ k < j ∧ j ≤ m ∧ Hid (undot s j.toNat = undot s m)) (fun v => (intOf v).toNat)
      case atStart => exact ⟨m, by first | rfl | go_num, by omega, by omega, Lib.hid (by rw [Int.toNat_natCast])⟩
      case round =>
        obtain ⟨j, rfl, hj1, hj2, HJ⟩ := hrel
        have hx : ∀ h : j.toNat - 1 < s.size, ((s[j.toNat - 1]'h).toNat : Int) = bt s (j - 1) := fun h => by simp [bt, show (j - 1).toNat = j.toNat - 1 by omega, h]
        have p1 : 0 ≤ j - 1 := by omega
        have p2 : 1 ≤ j := by omega
        have p3 : j - 1 < s.size := by omega
        have hun : undot s j.toNat = if bt s (j - 1) = 46 then undot s (j.toNat - 1) else j.toNat := by
          obtain ⟨i, rfl⟩ : ∃ i : Nat, j = (i : Int) + 1 := ⟨(j - 1).toNat, by omega⟩
          simp [undot, show ((i : Int) + 1).toNat = i + 1 by omega]
        by_cases e1 : bt s (j - 1) = 46
        · rw [if_pos e1] at hun
          have b1 : (bt s (j - 1) == 46) = true := by simpa using e1
          have HE2 := Lib.hid (show (k : Int) ≠ j - 1 from fun h => by have := HE.out; rw [h] at this; omega)
          have HUN := Lib.hid hun
          clear e1 hun
          go_wp2
          go_round
          case rel => exact ⟨j - 1, by go_num, by have := HE2.out; omega, by omega, Lib.hid (by rw [← HJ.out, HUN.out, show (j - 1).toNat = j.toNat - 1 by omega])⟩
          case measure => simp [intOf]; omega
        · rw [if_neg e1] at hun
          have b1 : (bt s (j - 1) == 46) = false := by simpa using e1
          have HX := Lib.hid (show r = j.toNat by rw [HD.out, ← HJ.out, hun])
          clear e1 hun
          go_wp2
          go_ret
          exact ⟨by rw [HX.out, Int.toNat_of_nonneg (by omega)]; rfl, rfl⟩
  · rw [if_neg hk] at HD
    have b0 : (bt s k != 58) = true := bne_iff_ne.2 hk
    have HZ := Lib.hid (show r = 0 from HD.out)
    cases e0 : letterB (bt s i) with
    | true =>
      have HKD2 := Lib.hid (show i + cnt (wordsB true false) s i = k by rw [HKD.out, e0]; rfl)
      rw [HKD2.out] at HR
      rw [e0] at hlet
      have HL := Lib.hid hlet
      clear hk e0 hlet
      by_cases hke : k < s.size
      all_goals
        go_enter Tryd.func63, Tryd.ntmps63
        go_wp2_with (first | ((with_reducible refine HR.out.mono ?_); rintro e w' ⟨rfl, rfl⟩) | ((with_reducible refine HL.out.mono ?_); rintro e w' ⟨rfl, rfl⟩))
        go_ret
        exact ⟨by rw [HZ.out]; rfl, rfl⟩
    | false =>
      have HKD2 := Lib.hid (show k = i by rw [HKD.out, e0]; rfl)
      obtain rfl := HKD2.out
      rw [e0] at hlet
      have HL := Lib.hid hlet
      clear hk e0 hlet
      go_enter Tryd.func63, Tryd.ntmps63
      go_wp2_with (first | ((with_reducible refine HL.out.mono ?_); rintro e w' ⟨rfl, rfl⟩))
      go_ret
      exact ⟨by rw [HZ.out]; rfl, rfl⟩
end Go.Proofs.YtpgoemlnjocmhaaDoor.Lex
