/-
  A part of the proof of LexTokens (whatever the input, the law returns true and the input reads as it did): the reference: small readers. Conditions stand at each theorem.
-/
import Derived.Test.YtpgoemlnjocmhaaDoorLexI
namespace Go.Proofs.YtpgoemlnjocmhaaDoor.Lex
open Go.RowKit Go.Proofs.YtpgoemlnjocmhaaDoorW.PrintWords
set_option linter.unusedVariables false
set_option linter.unusedSimpArgs false

/-! The reference's readers. -/
set_option maxHeartbeats 400000 in
theorem rletter_any (c : Int) (w : World) : Calls Tryd.prog 58 #[.int .u8 c] w fun e w' => e = .returned (.bool (letterB c)) ∧ w = w' := by
  by_cases h1 : 97 ≤ c <;> by_cases h2 : c ≤ 122 <;> by_cases h3 : 65 ≤ c <;> by_cases h4 : c ≤ 90 <;> first
    | (exfalso; omega)
    | (go_enter Tryd.func58, Tryd.ntmps58
       go_wp2
       go_ret
       exact ⟨by simp [letterB, *], rfl⟩)
set_option maxHeartbeats 400000 in
theorem rdigit_any (c : Int) (w : World) : Calls Tryd.prog 61 #[.int .u8 c] w fun e w' => e = .returned (.bool (digitB c)) ∧ w = w' := by
  by_cases h1 : 48 ≤ c <;> by_cases h2 : c ≤ 57 <;> first
    | (exfalso; omega)
    | (go_enter Tryd.func61, Tryd.ntmps61
       go_wp2
       go_ret
       exact ⟨by simp [digitB, *], rfl⟩)
set_option maxHeartbeats 1600000 in
theorem rword_any (c : Int) (w : World) : Calls Tryd.prog 83 #[.int .u8 c] w fun e w' => e = .returned (.bool (nameB c)) ∧ w = w' := by
  by_cases h1 : 97 ≤ c <;> by_cases h2 : c ≤ 122 <;> by_cases h3 : 65 ≤ c <;> by_cases h4 : c ≤ 90 <;> by_cases h5 : 48 ≤ c <;> by_cases h6 : c ≤ 57 <;> first
    | (exfalso; omega)
    | (go_enter Tryd.func83, Tryd.ntmps83
       go_wp2
       go_ret
       exact ⟨by first | (simp [nameB, letterB, digitB, *]; done) | (simp [nameB, letterB, digitB, *]; intro h; omega), rfl⟩)
theorem signB_split (c : Int) (h0 : 0 ≤ c) (h1 : c ≤ 255) : signB c = (decide (32 < c) && !(c == 60) && !(c == 62) && !(c == 34) && !(c == 123) && !(c == 125) && !(c == 124) && !(c == 94) && !(c == 92) && !(c == 96)) := by
  have key : ∀ n : Fin 256, signB (n.val : Int) = (decide (32 < (n.val : Int)) && !((n.val : Int) == 60) && !((n.val : Int) == 62) && !((n.val : Int) == 34) && !((n.val : Int) == 123) && !((n.val : Int) == 125) && !((n.val : Int) == 124) && !((n.val : Int) == 94) && !((n.val : Int) == 92) && !((n.val : Int) == 96)) := by decide +kernel
  obtain ⟨n, rfl⟩ := Int.eq_ofNat_of_zero_le h0
  exact key ⟨n, by omega⟩
set_option maxHeartbeats 1600000 in
theorem rsign_any (c : Int) (w : World) (h0 : 0 ≤ c) (h255 : c ≤ 255) : Calls Tryd.prog 82 #[.int .u8 c] w fun e w' => e = .returned (.bool (signB c)) ∧ w = w' := by
  rw [signB_split c h0 h255]
  by_cases h1 : 32 < c
  · by_cases e0 : c = 60
    · subst e0; go_enter Tryd.func82, Tryd.ntmps82; go_wp2; go_ret; exact ⟨rfl, rfl⟩
    have b0 : (c == 60) = false := beq_eq_false_iff_ne.2 e0
    have d0 : (c != 60) = true := bne_iff_ne.2 e0
    clear e0
    by_cases e1 : c = 62
    · subst e1; go_enter Tryd.func82, Tryd.ntmps82; go_wp2; go_ret; exact ⟨rfl, rfl⟩
    have b1 : (c == 62) = false := beq_eq_false_iff_ne.2 e1
    have d1 : (c != 62) = true := bne_iff_ne.2 e1
    clear e1
    by_cases e2 : c = 34
    · subst e2; go_enter Tryd.func82, Tryd.ntmps82; go_wp2; go_ret; exact ⟨rfl, rfl⟩
    have b2 : (c == 34) = false := beq_eq_false_iff_ne.2 e2
    have d2 : (c != 34) = true := bne_iff_ne.2 e2
    clear e2
    by_cases e3 : c = 123
    · subst e3; go_enter Tryd.func82, Tryd.ntmps82; go_wp2; go_ret; exact ⟨rfl, rfl⟩
    have b3 : (c == 123) = false := beq_eq_false_iff_ne.2 e3
    have d3 : (c != 123) = true := bne_iff_ne.2 e3
    clear e3
    by_cases e4 : c = 125
    · subst e4; go_enter Tryd.func82, Tryd.ntmps82; go_wp2; go_ret; exact ⟨rfl, rfl⟩
    have b4 : (c == 125) = false := beq_eq_false_iff_ne.2 e4
    have d4 : (c != 125) = true := bne_iff_ne.2 e4
    clear e4
    by_cases e5 : c = 124
    · subst e5; go_enter Tryd.func82, Tryd.ntmps82; go_wp2; go_ret; exact ⟨rfl, rfl⟩
    have b5 : (c == 124) = false := beq_eq_false_iff_ne.2 e5
    have d5 : (c != 124) = true := bne_iff_ne.2 e5
    clear e5
    by_cases e6 : c = 94
    · subst e6; go_enter Tryd.func82, Tryd.ntmps82; go_wp2; go_ret; exact ⟨rfl, rfl⟩
    have b6 : (c == 94) = false := beq_eq_false_iff_ne.2 e6
    have d6 : (c != 94) = true := bne_iff_ne.2 e6
    clear e6
    by_cases e7 : c = 92
    · subst e7; go_enter Tryd.func82, Tryd.ntmps82; go_wp2; go_ret; exact ⟨rfl, rfl⟩
    have b7 : (c == 92) = false := beq_eq_false_iff_ne.2 e7
    have d7 : (c != 92) = true := bne_iff_ne.2 e7
    clear e7
    by_cases e8 : c = 96
    · subst e8; go_enter Tryd.func82, Tryd.ntmps82; go_wp2; go_ret; exact ⟨rfl, rfl⟩
    have b8 : (c == 96) = false := beq_eq_false_iff_ne.2 e8
    have d8 : (c != 96) = true := bne_iff_ne.2 e8
    clear e8
    have HZ := Lib.hid (show (decide (32 < c) && !(c == 60) && !(c == 62) && !(c == 34) && !(c == 123) && !(c == 125) && !(c == 124) && !(c == 94) && !(c == 92) && !(c == 96)) = true by simp [*])
    go_enter Tryd.func82, Tryd.ntmps82; go_wp2; go_ret; exact ⟨by rw [HZ.out]; rfl, rfl⟩
  · have HZ := Lib.hid (show (decide (32 < c) && !(c == 60) && !(c == 62) && !(c == 34) && !(c == 123) && !(c == 125) && !(c == 124) && !(c == 94) && !(c == 92) && !(c == 96)) = false by simp [h1])
    go_enter Tryd.func82, Tryd.ntmps82; go_wp2; go_ret; exact ⟨by rw [HZ.out]; rfl, rfl⟩

/-- Behind the > of a TIri. -/
def iriR (s : ByteArray) (i : Nat) : Nat := if bt s i = 60 ∧ bt s (i + 1 + cnt signB s (i + 1) : Nat) = 62 then i + 1 + cnt signB s (i + 1) + 1 else 0
set_option maxHeartbeats 1600000 in
set_option maxRecDepth 100000 in
theorem riri_any (s : ByteArray) (i : Nat) (w : World) (hs : s.size ≤ 140737488351232) (hi : i < s.size) :
    Calls Tryd.prog 56 #[.string s, .int .i64 i] w fun e w' => e = .returned (.int .i64 (iriR s i)) ∧ w = w' := by
  have HD := Lib.hid (show iriR s i = if bt s i = 60 ∧ bt s (i + 1 + cnt signB s (i + 1) : Nat) = 62 then i + 1 + cnt signB s (i + 1) + 1 else 0 from rfl)
  generalize iriR s i = r at *
  have hle0 := cnt_le signB s (i + 1)
  go_enter Tryd.func56, Tryd.ntmps56
  go_wp2
  go_loop [5] (fun v => ∃ k : Nat, v = .int .i64 k ∧ i + 1 ≤ k ∧ k ≤ s.size ∧ Hid (i + 1 + cnt signB s (i + 1) = k + cnt signB s k)) (fun v => s.size - (intOf v).toNat)
  case atStart => exact ⟨i + 1, by go_num, by omega, by omega, Lib.hid rfl⟩
  case round =>
    obtain ⟨k, rfl, hk1, hk2, HR⟩ := hrel
    by_cases hlt : k < s.size
    · have hx : ∀ h : k < s.size, ((s[k]'h).toNat : Int) = bt s k := fun h => by simp [bt, h]
      have hbr := bt_range s k
      have hb1 := hbr.1
      have hb2 := hbr.2
      have hsg := rsign_any (bt s k) w hbr.1 hbr.2
      clear hbr
      cases hp : signB (bt s k) with
      | true =>
        rw [hp] at hsg
        have HS := Lib.hid hsg
        have HN := Lib.hid (cnt_yes signB s k hlt hp)
        clear hsg hp
        go_wp2_with (first | ((with_reducible refine HS.out.mono ?_); rintro e w' ⟨rfl, rfl⟩))
        go_round
        case rel => exact ⟨k + 1, by go_num, by omega, by omega, Lib.hid (by have := HR.out; have := HN.out; omega)⟩
        case measure => simp [intOf]; omega
      | false =>
        rw [hp] at hsg
        have HS := Lib.hid hsg
        have hn := cnt_no signB s k hlt hp
        have HK := Lib.hid (show i + 1 + cnt signB s (i + 1) = k by have := HR.out; omega)
        rw [HK.out] at HD
        have hxi : ∀ h : i < s.size, ((s[i]'h).toNat : Int) = bt s i := fun h => by simp [bt, h]
        clear hsg hp hn
        by_cases e0 : bt s i = 60
        · by_cases e1 : bt s k = 62
          · have HZ := Lib.hid (show r = k + 1 by rw [HD.out, if_pos ⟨e0, e1⟩])
            have b0 : (bt s i != 60) = false := by rw [e0]; rfl
            have b1 : (bt s k != 62) = false := by rw [e1]; rfl
            clear e0 e1
            go_wp2_with (first | ((with_reducible refine HS.out.mono ?_); rintro e w' ⟨rfl, rfl⟩))
            go_ret
            exact ⟨by rw [HZ.out]; go_num, rfl⟩
          · have HZ := Lib.hid (show r = 0 by rw [HD.out, if_neg (fun h => e1 h.2)])
            have b0 : (bt s i != 60) = false := by rw [e0]; rfl
            have b1 : (bt s k != 62) = true := bne_iff_ne.2 e1
            clear e0 e1
            go_wp2_with (first | ((with_reducible refine HS.out.mono ?_); rintro e w' ⟨rfl, rfl⟩))
            go_ret
            exact ⟨by rw [HZ.out]; rfl, rfl⟩
        · have HZ := Lib.hid (show r = 0 by rw [HD.out, if_neg (fun h => e0 h.1)])
          have b0 : (bt s i != 60) = true := bne_iff_ne.2 e0
          clear e0
          go_wp2_with (first | ((with_reducible refine HS.out.mono ?_); rintro e w' ⟨rfl, rfl⟩))
          go_ret
          exact ⟨by rw [HZ.out]; rfl, rfl⟩
    · obtain rfl : k = s.size := by omega
      have hn := cnt_end signB s s.size (by omega)
      have HK := Lib.hid (show i + 1 + cnt signB s (i + 1) = s.size by have := HR.out; omega)
      rw [HK.out] at HD
      have hxi : ∀ h : i < s.size, ((s[i]'h).toNat : Int) = bt s i := fun h => by simp [bt, h]
      have HZ := Lib.hid (show r = 0 by rw [HD.out, if_neg (fun h => absurd (bt_lt h.2 (by omega)) (by omega))])
      clear hn
      by_cases e0 : bt s i = 60
      · have b0 : (bt s i != 60) = false := by rw [e0]; rfl
        clear e0
        go_wp2
        go_ret
        exact ⟨by rw [HZ.out]; rfl, rfl⟩
      · have b0 : (bt s i != 60) = true := bne_iff_ne.2 e0
        clear e0
        go_wp2
        go_ret
        exact ⟨by rw [HZ.out]; rfl, rfl⟩

/-- A row of letters, digits, _; of - too; of . too. -/
def wordsB (dash dot : Bool) (c : Int) : Bool := nameB c || (dash && c == 45) || (dot && c == 46)
set_option maxHeartbeats 4000000 in
set_option maxRecDepth 100000 in
theorem rwords_any (s : ByteArray) (i : Nat) (dash dot : Bool) (w : World) (hs : s.size ≤ 140737488351232) (hi : i ≤ 140737488351232) :
    Calls Tryd.prog 57 #[.string s, .int .i64 i, .bool dash, .bool dot] w fun e w' => e = .returned (.int .i64 (i + cnt (wordsB dash dot) s i : Nat)) ∧ w = w' := by
  have hle0 := cnt_le (wordsB dash dot) s i
  cases dash <;> cases dot
  · go_enter Tryd.func57, Tryd.ntmps57
    go_wp2
    go_loop [1] (fun v => ∃ k : Nat, v = .int .i64 k ∧ i ≤ k ∧ k ≤ max i s.size ∧ Hid (i + cnt (wordsB false false) s i = k + cnt (wordsB false false) s k)) (fun v => s.size - (intOf v).toNat)
    case atStart => exact ⟨i, by go_num, by omega, by omega, Lib.hid rfl⟩
    case round =>
      obtain ⟨k, rfl, hk1, hk2, HR⟩ := hrel
      by_cases hlt : k < s.size
      · have hx : ∀ h : k < s.size, ((s[k]'h).toNat : Int) = bt s k := fun h => by simp [bt, h]
        have hbr := bt_range s k
        have hb1 := hbr.1
        have hb2 := hbr.2
        have hsg := rword_any (bt s k) w
        have hy := cnt_yes (wordsB false false) s k hlt
        have hn := cnt_no (wordsB false false) s k hlt
        have hP : (wordsB false false) (bt s k) = (nameB (bt s k) || (false && bt s k == 45) || (false && bt s k == 46)) := rfl
        clear hbr
        cases hp : nameB (bt s k)
        · rw [hp] at hsg
          have HN := Lib.hid (hn (by rw [hP, hp]; rfl))
          have HS := Lib.hid hsg
          clear hsg hp hy hn hP 
          go_wp2_with (first | ((with_reducible refine HS.out.mono ?_); rintro e w' ⟨rfl, rfl⟩))
          go_ret
          exact ⟨by have := HR.out; have := HN.out; simp; omega, rfl⟩
        · rw [hp] at hsg
          have HN := Lib.hid (hy (by rw [hP, hp]; rfl))
          have HS := Lib.hid hsg
          clear hsg hp hy hn hP 
          go_wp2_with (first | ((with_reducible refine HS.out.mono ?_); rintro e w' ⟨rfl, rfl⟩))
          go_round
          case rel => exact ⟨k + 1, by go_num, by omega, by omega, Lib.hid (by have := HR.out; have := HN.out; omega)⟩
          case measure => simp [intOf]; omega
      · have HN := Lib.hid (cnt_end (wordsB false false) s k hlt)
        go_wp2
        go_ret
        exact ⟨by have := HR.out; have := HN.out; simp; omega, rfl⟩
  · go_enter Tryd.func57, Tryd.ntmps57
    go_wp2
    go_loop [1] (fun v => ∃ k : Nat, v = .int .i64 k ∧ i ≤ k ∧ k ≤ max i s.size ∧ Hid (i + cnt (wordsB false true) s i = k + cnt (wordsB false true) s k)) (fun v => s.size - (intOf v).toNat)
    case atStart => exact ⟨i, by go_num, by omega, by omega, Lib.hid rfl⟩
    case round =>
      obtain ⟨k, rfl, hk1, hk2, HR⟩ := hrel
      by_cases hlt : k < s.size
      · have hx : ∀ h : k < s.size, ((s[k]'h).toNat : Int) = bt s k := fun h => by simp [bt, h]
        have hbr := bt_range s k
        have hb1 := hbr.1
        have hb2 := hbr.2
        have hsg := rword_any (bt s k) w
        have hy := cnt_yes (wordsB false true) s k hlt
        have hn := cnt_no (wordsB false true) s k hlt
        have hP : (wordsB false true) (bt s k) = (nameB (bt s k) || (false && bt s k == 45) || (true && bt s k == 46)) := rfl
        clear hbr
        cases hp : nameB (bt s k)
        · rw [hp] at hsg
          by_cases e46 : bt s k = 46
          · have b46 : (bt s k == 46) = true := beq_iff_eq.2 e46
            have HN := Lib.hid (hy (by rw [hP, hp]; simp [b46]))
            have HS := Lib.hid hsg
            clear hsg hp hy hn hP e46
            go_wp2_with (first | ((with_reducible refine HS.out.mono ?_); rintro e w' ⟨rfl, rfl⟩))
            go_round
            case rel => exact ⟨k + 1, by go_num, by omega, by omega, Lib.hid (by have := HR.out; have := HN.out; omega)⟩
            case measure => simp [intOf]; omega
          have b46 : (bt s k == 46) = false := beq_eq_false_iff_ne.2 e46
          have HN := Lib.hid (hn (by rw [hP, hp]; simp [b46]))
          have HS := Lib.hid hsg
          clear hsg hp hy hn hP e46
          go_wp2_with (first | ((with_reducible refine HS.out.mono ?_); rintro e w' ⟨rfl, rfl⟩))
          go_ret
          exact ⟨by have := HR.out; have := HN.out; simp; omega, rfl⟩
        · rw [hp] at hsg
          have HN := Lib.hid (hy (by rw [hP, hp]; rfl))
          have HS := Lib.hid hsg
          clear hsg hp hy hn hP 
          go_wp2_with (first | ((with_reducible refine HS.out.mono ?_); rintro e w' ⟨rfl, rfl⟩))
          go_round
          case rel => exact ⟨k + 1, by go_num, by omega, by omega, Lib.hid (by have := HR.out; have := HN.out; omega)⟩
          case measure => simp [intOf]; omega
      · have HN := Lib.hid (cnt_end (wordsB false true) s k hlt)
        go_wp2
        go_ret
        exact ⟨by have := HR.out; have := HN.out; simp; omega, rfl⟩
  · go_enter Tryd.func57, Tryd.ntmps57
    go_wp2
    go_loop [1] (fun v => ∃ k : Nat, v = .int .i64 k ∧ i ≤ k ∧ k ≤ max i s.size ∧ Hid (i + cnt (wordsB true false) s i = k + cnt (wordsB true false) s k)) (fun v => s.size - (intOf v).toNat)
    case atStart => exact ⟨i, by go_num, by omega, by omega, Lib.hid rfl⟩
    case round =>
      obtain ⟨k, rfl, hk1, hk2, HR⟩ := hrel
      by_cases hlt : k < s.size
      · have hx : ∀ h : k < s.size, ((s[k]'h).toNat : Int) = bt s k := fun h => by simp [bt, h]
        have hbr := bt_range s k
        have hb1 := hbr.1
        have hb2 := hbr.2
        have hsg := rword_any (bt s k) w
        have hy := cnt_yes (wordsB true false) s k hlt
        have hn := cnt_no (wordsB true false) s k hlt
        have hP : (wordsB true false) (bt s k) = (nameB (bt s k) || (true && bt s k == 45) || (false && bt s k == 46)) := rfl
        clear hbr
        cases hp : nameB (bt s k)
        · rw [hp] at hsg
          by_cases e45 : bt s k = 45
          · have b45 : (bt s k == 45) = true := beq_iff_eq.2 e45
            have HN := Lib.hid (hy (by rw [hP, hp]; simp [b45]))
            have HS := Lib.hid hsg
            clear hsg hp hy hn hP e45
            go_wp2_with (first | ((with_reducible refine HS.out.mono ?_); rintro e w' ⟨rfl, rfl⟩))
            go_round
            case rel => exact ⟨k + 1, by go_num, by omega, by omega, Lib.hid (by have := HR.out; have := HN.out; omega)⟩
            case measure => simp [intOf]; omega
          have b45 : (bt s k == 45) = false := beq_eq_false_iff_ne.2 e45
          have HN := Lib.hid (hn (by rw [hP, hp]; simp [b45]))
          have HS := Lib.hid hsg
          clear hsg hp hy hn hP e45
          go_wp2_with (first | ((with_reducible refine HS.out.mono ?_); rintro e w' ⟨rfl, rfl⟩))
          go_ret
          exact ⟨by have := HR.out; have := HN.out; simp; omega, rfl⟩
        · rw [hp] at hsg
          have HN := Lib.hid (hy (by rw [hP, hp]; rfl))
          have HS := Lib.hid hsg
          clear hsg hp hy hn hP 
          go_wp2_with (first | ((with_reducible refine HS.out.mono ?_); rintro e w' ⟨rfl, rfl⟩))
          go_round
          case rel => exact ⟨k + 1, by go_num, by omega, by omega, Lib.hid (by have := HR.out; have := HN.out; omega)⟩
          case measure => simp [intOf]; omega
      · have HN := Lib.hid (cnt_end (wordsB true false) s k hlt)
        go_wp2
        go_ret
        exact ⟨by have := HR.out; have := HN.out; simp; omega, rfl⟩
  · go_enter Tryd.func57, Tryd.ntmps57
    go_wp2
    go_loop [1] (fun v => ∃ k : Nat, v = .int .i64 k ∧ i ≤ k ∧ k ≤ max i s.size ∧ Hid (i + cnt (wordsB true true) s i = k + cnt (wordsB true true) s k)) (fun v => s.size - (intOf v).toNat)
    case atStart => exact ⟨i, by go_num, by omega, by omega, Lib.hid rfl⟩
    case round =>
      obtain ⟨k, rfl, hk1, hk2, HR⟩ := hrel
      by_cases hlt : k < s.size
      · have hx : ∀ h : k < s.size, ((s[k]'h).toNat : Int) = bt s k := fun h => by simp [bt, h]
        have hbr := bt_range s k
        have hb1 := hbr.1
        have hb2 := hbr.2
        have hsg := rword_any (bt s k) w
        have hy := cnt_yes (wordsB true true) s k hlt
        have hn := cnt_no (wordsB true true) s k hlt
        have hP : (wordsB true true) (bt s k) = (nameB (bt s k) || (true && bt s k == 45) || (true && bt s k == 46)) := rfl
        clear hbr
        cases hp : nameB (bt s k)
        · rw [hp] at hsg
          by_cases e45 : bt s k = 45
          · have b45 : (bt s k == 45) = true := beq_iff_eq.2 e45
            have HN := Lib.hid (hy (by rw [hP, hp]; simp [b45]))
            have HS := Lib.hid hsg
            clear hsg hp hy hn hP e45
            go_wp2_with (first | ((with_reducible refine HS.out.mono ?_); rintro e w' ⟨rfl, rfl⟩))
            go_round
            case rel => exact ⟨k + 1, by go_num, by omega, by omega, Lib.hid (by have := HR.out; have := HN.out; omega)⟩
            case measure => simp [intOf]; omega
          have b45 : (bt s k == 45) = false := beq_eq_false_iff_ne.2 e45
          by_cases e46 : bt s k = 46
          · have b46 : (bt s k == 46) = true := beq_iff_eq.2 e46
            have HN := Lib.hid (hy (by rw [hP, hp]; simp [b46]))
            have HS := Lib.hid hsg
            clear hsg hp hy hn hP e46
            go_wp2_with (first | ((with_reducible refine HS.out.mono ?_); rintro e w' ⟨rfl, rfl⟩))
            go_round
            case rel => exact ⟨k + 1, by go_num, by omega, by omega, Lib.hid (by have := HR.out; have := HN.out; omega)⟩
            case measure => simp [intOf]; omega
          have b46 : (bt s k == 46) = false := beq_eq_false_iff_ne.2 e46
          have HN := Lib.hid (hn (by rw [hP, hp]; simp [b45, b46]))
          have HS := Lib.hid hsg
          clear hsg hp hy hn hP e45 e46
          go_wp2_with (first | ((with_reducible refine HS.out.mono ?_); rintro e w' ⟨rfl, rfl⟩))
          go_ret
          exact ⟨by have := HR.out; have := HN.out; simp; omega, rfl⟩
        · rw [hp] at hsg
          have HN := Lib.hid (hy (by rw [hP, hp]; rfl))
          have HS := Lib.hid hsg
          clear hsg hp hy hn hP 
          go_wp2_with (first | ((with_reducible refine HS.out.mono ?_); rintro e w' ⟨rfl, rfl⟩))
          go_round
          case rel => exact ⟨k + 1, by go_num, by omega, by omega, Lib.hid (by have := HR.out; have := HN.out; omega)⟩
          case measure => simp [intOf]; omega
      · have HN := Lib.hid (cnt_end (wordsB true true) s k hlt)
        go_wp2
        go_ret
        exact ⟨by have := HR.out; have := HN.out; simp; omega, rfl⟩

set_option maxHeartbeats 1600000 in
set_option maxRecDepth 100000 in
theorem rlang_any (s : ByteArray) (i : Nat) (w : World) (hs : s.size ≤ 140737488351232) (hi : i ≤ 140737488351232) :
    Calls Tryd.prog 60 #[.string s, .int .i64 i] w fun e w' => e = .returned (.int .i64 (i + cnt lowdB s i : Nat)) ∧ w = w' := by
  have hle0 := cnt_le lowdB s i
  go_enter Tryd.func60, Tryd.ntmps60
  go_wp2
  go_loop [1] (fun v => ∃ k : Nat, v = .int .i64 k ∧ i ≤ k ∧ k ≤ max i s.size ∧ Hid (i + cnt lowdB s i = k + cnt lowdB s k)) (fun v => s.size - (intOf v).toNat)
  case atStart => exact ⟨i, by go_num, by omega, by omega, Lib.hid rfl⟩
  case round =>
    obtain ⟨k, rfl, hk1, hk2, HR⟩ := hrel
    by_cases hlt : k < s.size
    · have hx : ∀ h : k < s.size, ((s[k]'h).toNat : Int) = bt s k := fun h => by simp [bt, h]
      have hbr := bt_range s k
      have hb1 := hbr.1
      have hb2 := hbr.2
      have hy := cnt_yes lowdB s k hlt
      have hn := cnt_no lowdB s k hlt
      clear hbr
      by_cases h1 : 97 ≤ bt s k
      · by_cases h2 : bt s k ≤ 122
        · have HN := Lib.hid (hy (by simp [lowdB, lowB, h1, h2]))
          clear hy hn
          go_wp2
          go_round
          case rel => exact ⟨k + 1, by go_num, by omega, by omega, Lib.hid (by have := HR.out; have := HN.out; omega)⟩
          case measure => simp [intOf]; omega
        · have b1 : (bt s k == 45) = false := beq_eq_false_iff_ne.2 (by omega)
          have HN := Lib.hid (hn (by simp [lowdB, lowB, h1, h2, b1]; try omega))
          clear hy hn
          go_wp2
          go_ret
          exact ⟨by have := HR.out; have := HN.out; simp; omega, rfl⟩
      · by_cases h3 : bt s k = 45
        · have b1 : (bt s k == 45) = true := beq_iff_eq.2 h3
          have HN := Lib.hid (hy (by simp [lowdB, b1]))
          clear hy hn h3
          go_wp2
          go_round
          case rel => exact ⟨k + 1, by go_num, by omega, by omega, Lib.hid (by have := HR.out; have := HN.out; omega)⟩
          case measure => simp [intOf]; omega
        · have b1 : (bt s k == 45) = false := beq_eq_false_iff_ne.2 h3
          have HN := Lib.hid (hn (by simp [lowdB, lowB, h1, b1]; try omega))
          clear hy hn h3
          go_wp2
          go_ret
          exact ⟨by have := HR.out; have := HN.out; simp; omega, rfl⟩
    · have HN := Lib.hid (cnt_end lowdB s k hlt)
      go_wp2
      go_ret
      exact ⟨by have := HR.out; have := HN.out; simp; omega, rfl⟩
end Go.Proofs.YtpgoemlnjocmhaaDoor.Lex
