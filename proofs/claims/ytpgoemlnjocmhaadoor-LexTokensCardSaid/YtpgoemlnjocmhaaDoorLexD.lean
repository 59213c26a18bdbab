/-
  A part of the proof of LexTokens (whatever the input, the law returns true and the input reads as it did): numbers and names. Conditions stand at each theorem.
-/
import Derived.Test.YtpgoemlnjocmhaaDoorLexC
namespace Go.Proofs.YtpgoemlnjocmhaaDoor.Lex
open Go.RowKit Go.Proofs.YtpgoemlnjocmhaaDoorW.PrintWords
set_option linter.unusedVariables false
set_option linter.unusedSimpArgs false

theorem cnt_pos_lt {p : Int → Bool} {s : ByteArray} {i : Nat} (h : 0 < cnt p s i) : i < s.size := by
  rcases Nat.lt_or_ge i s.size with h1 | h1
  · exact h1
  · rw [cnt_end p s i (by omega)] at h; omega

/-- A TNum: how many bytes. -/
def numN (s : ByteArray) : Nat :=
  let n := cnt digitB s 0
  if bt s n = 46 ∧ digitB (bt s (n + 1 : Nat)) = true then n + (1 + cnt digitB s (n + 1)) else n
def numT (s : ByteArray) : Option (Int × ByteArray × Nat) :=
  if 0 < cnt digitB s 0 then some (7, s.extract 0 (numN s), numN s) else none
set_option maxHeartbeats 800000 in
theorem number_any (g B : Nat) (s : ByteArray) (out : List Tok) (w : World) (hS : Scan w g B s out) (ho : out.length < 4000) :
    Calls Tryd.prog 25 #[.pointer (some ⟨g, 0, none⟩)] w (Res (numT s) w g B s out) := by
  have hc := hS.cell
  have hs := hS.sz
  have hrow := row_any g s w 0 53 #[] digitB hc hs (by omega) (by omega) cf_digit (fun c h0 h1 => digit_any c w)
  have hle := cnt_le digitB s 0
  simp only [show (0 : Int).toNat = 0 from rfl] at hrow
  unfold numT numN
  generalize cnt digitB s 0 = n at *
  have HR := Lib.hid hrow
  have HS := Lib.hid hS
  clear hrow hS
  by_cases h0 : 0 < n
  · rw [if_pos h0]
    have hn0 : ((n : Int) == 0) = false := beq_eq_false_iff_ne.2 (by omega)
    have hatn := at_any g s w n hc hs (by omega)
    by_cases e0 : bt s n = 46
    · have hl := bt_lt e0 (by omega)
      have hat1 := at_any g s w (n + 1 : Nat) hc hs (by omega)
      have hdig := digit_any (bt s (n + 1 : Nat)) w
      rw [e0] at hatn
      have H0 := Lib.hid hatn
      have H1 := Lib.hid hat1
      cases e1 : digitB (bt s (n + 1 : Nat)) with
      | true =>
        have hrow2 := row_any g s w (n + 1 : Nat) 53 #[] digitB hc hs (by omega) (by omega) cf_digit (fun c h0 h1 => digit_any c w)
        have hle2 := cnt_le digitB s (n + 1)
        simp only [Int.toNat_natCast] at hrow2
        rw [if_pos ⟨e0, e1⟩]
        generalize cnt digitB s (n + 1) = m at *
        simp only [Int.natCast_add, Int.natCast_one] at hrow2 H1 hdig e1
        rw [e1] at hdig
        have HD := Lib.hid hdig
        have HR2 := Lib.hid hrow2
        have HT := Lib.hid (tok' g B s out w 7 (n + (1 + m)) (n + (1 + m)) (s.extract 0 (n + (1 + m))) HS.out ho rfl (by omega))
        clear e0 e1 hatn hat1 hdig hrow2
        go_enter Tryd.func25, Tryd.ntmps25
        go_wp2_with (first | ((with_reducible refine HR.out.mono ?_); rintro e w' ⟨rfl, rfl⟩) | ((with_reducible refine H0.out.mono ?_); rintro e w' ⟨rfl, rfl⟩) | ((with_reducible refine H1.out.mono ?_); rintro e w' ⟨rfl, rfl⟩) | ((with_reducible refine HD.out.mono ?_); rintro e w' ⟨rfl, rfl⟩) | ((with_reducible refine HR2.out.mono ?_); rintro e w' ⟨rfl, rfl⟩) | ((with_reducible refine HT.out.mono ?_); rintro e w' ⟨rfl, h2, h3⟩))
        go_ret
        exact res_tok h2 h3
      | false =>
        rw [if_neg (fun h => absurd (e1.symm.trans h.2) (by simp))]
        simp only [Int.natCast_add, Int.natCast_one] at H1 hdig e1
        rw [e1] at hdig
        have HD := Lib.hid hdig
        have HT := Lib.hid (tok' g B s out w 7 n n (s.extract 0 n) HS.out ho rfl (by omega))
        clear e0 e1 hatn hat1 hdig
        go_enter Tryd.func25, Tryd.ntmps25
        go_wp2_with (first | ((with_reducible refine HR.out.mono ?_); rintro e w' ⟨rfl, rfl⟩) | ((with_reducible refine H0.out.mono ?_); rintro e w' ⟨rfl, rfl⟩) | ((with_reducible refine H1.out.mono ?_); rintro e w' ⟨rfl, rfl⟩) | ((with_reducible refine HD.out.mono ?_); rintro e w' ⟨rfl, rfl⟩) | ((with_reducible refine HT.out.mono ?_); rintro e w' ⟨rfl, h2, h3⟩))
        go_ret
        exact res_tok h2 h3
    · rw [if_neg (fun h => e0 h.1)]
      have b0 : (bt s n == 46) = false := by simpa using e0
      have H0 := Lib.hid hatn
      have HT := Lib.hid (tok' g B s out w 7 n n (s.extract 0 n) HS.out ho rfl (by omega))
      clear e0 hatn
      go_enter Tryd.func25, Tryd.ntmps25
      go_wp2_with (first | ((with_reducible refine HR.out.mono ?_); rintro e w' ⟨rfl, rfl⟩) | ((with_reducible refine H0.out.mono ?_); rintro e w' ⟨rfl, rfl⟩) | ((with_reducible refine HT.out.mono ?_); rintro e w' ⟨rfl, h2, h3⟩))
      go_ret
      exact res_tok h2 h3
  · rw [if_neg h0]
    obtain rfl : n = 0 := by omega
    go_enter Tryd.func25, Tryd.ntmps25
    go_wp2_with (first | ((with_reducible refine HR.out.mono ?_); rintro e w' ⟨rfl, rfl⟩))
    go_ret
    exact res_none HS.out

/-- Without the dots at the end. -/
def undot (s : ByteArray) : Nat → Nat
  | 0 => 0
  | n + 1 => if bt s n = 46 then undot s n else n + 1
theorem undot_le (s : ByteArray) (n : Nat) : undot s n ≤ n := by
  induction n with
  | zero => exact Nat.le_refl _
  | succ n ih => unfold undot; split <;> omega
/-- A TName: where its colon stands. -/
def nameK (s : ByteArray) : Nat := if letterB (bt s 0) = true then cnt ndB s 0 else 0
def nameN (s : ByteArray) : Nat := undot s (nameK s + 1 + cnt nddB s (nameK s + 1))
def nameT (s : ByteArray) : Option (Int × ByteArray × Nat) :=
  if bt s (nameK s) = 58 then some (2, s.extract 0 (nameN s), nameN s) else none
theorem undot_gt (s : ByteArray) (k : Nat) (h : bt s k = 58) (n : Nat) (hn : k < n) : k < undot s n := by
  induction n with
  | zero => omega
  | succ n ih =>
    unfold undot
    split
    · rename_i h2
      rcases Nat.lt_or_ge k n with h3 | h3
      · exact ih h3
      · obtain rfl : k = n := by omega
        omega
    · omega
set_option maxHeartbeats 1600000 in
theorem name_rest (g B : Nat) (s : ByteArray) (out : List Tok) (w : World) (hS : Scan w g B s out) (ho : out.length < 4000) (k : Nat) (hk : bt s k = 58) (n : Nat) (hn : n = k + 1 + cnt nddB s (k + 1)) : n ≤ s.size := by
  have := bt_lt hk (by omega)
  have := cnt_le nddB s (k + 1)
  omega
set_option maxHeartbeats 1600000 in
theorem mname_any (g B : Nat) (s : ByteArray) (out : List Tok) (w : World) (hS : Scan w g B s out) (ho : out.length < 4000) :
    Calls Tryd.prog 26 #[.pointer (some ⟨g, 0, none⟩)] w (Res (nameT s) w g B s out) := by
  have hc := hS.cell
  have hs := hS.sz
  have hrow := row_any g s w 0 54 #[] ndB hc hs (by omega) (by omega) cf_name1 (fun c h0 h1 => name1_any c w)
  have hle := cnt_le ndB s 0
  simp only [show (0 : Int).toNat = 0 from rfl] at hrow
  have hat0 := at_any g s w 0 hc hs (by omega)
  have hlet := letter_any (bt s 0) w
  have hkd : nameK s = if letterB (bt s 0) = true then cnt ndB s 0 else 0 := rfl
  have hkle : nameK s ≤ 140737488351232 := by rw [hkd]; split <;> omega
  unfold nameT nameN
  generalize nameK s = k at *
  have hatk := at_any g s w k hc hs (by omega)
  have HR := Lib.hid hrow
  have HS := Lib.hid hS
  have H0 := Lib.hid hat0
  clear hrow hS hat0
  by_cases hk : bt s k = 58
  · rw [if_pos hk]
    have hl := bt_lt hk (by omega)
    have hrow2 := row_any g s w (k + 1 : Nat) 55 #[] nddB hc hs (by omega) (by omega) cf_name2 (fun c h0 h1 => name2_any c w)
    have hle2 := cnt_le nddB s (k + 1)
    have hug := undot_gt s k hk
    simp only [Int.toNat_natCast] at hrow2
    simp only [Int.natCast_add, Int.natCast_one] at hrow2
    generalize cnt nddB s (k + 1) = m at *
    have HR2 := Lib.hid hrow2
    have HU := Lib.hid hug
    have HK := Lib.hid hk
    rw [hk] at hatk
    have HA := Lib.hid hatk
    clear hrow2 hug hatk hk
    cases e0 : letterB (bt s 0) with
    | true =>
      rw [e0] at hlet
      have HL := Lib.hid hlet
      rw [e0, if_pos rfl] at hkd
      rw [← hkd] at HR
      clear e0 hlet hkd
      go_enter Tryd.func26, Tryd.ntmps26
      go_wp2_with (first | ((with_reducible refine HR.out.mono ?_); rintro e w' ⟨rfl, rfl⟩) | ((with_reducible refine H0.out.mono ?_); rintro e w' ⟨rfl, rfl⟩) | ((with_reducible refine HL.out.mono ?_); rintro e w' ⟨rfl, rfl⟩) | ((with_reducible refine HA.out.mono ?_); rintro e w' ⟨rfl, rfl⟩) | ((with_reducible refine HR2.out.mono ?_); rintro e w' ⟨rfl, rfl⟩))
      go_loop [3] (fun v => ∃ j : Int, v = .int .i64 j ∧ k < j ∧ j ≤ k + 1 + m ∧ Hid (undot s j.toNat = undot s (k + 1 + m))) (fun v => (intOf v).toNat)
      case atStart => exact ⟨k + (1 + m), by first | rfl | (simp; omega), by omega, by omega, Lib.hid (by rw [show ((k : Int) + (1 + m)).toNat = k + 1 + m by omega])⟩
      case round =>
        obtain ⟨j, rfl, hj1, hj2, HJ⟩ := hrel
        have hx : ∀ h : j.toNat - 1 < s.size, ((s[j.toNat - 1]'h).toNat : Int) = bt s (j - 1) := fun h => by simp [bt, show (j - 1).toNat = j.toNat - 1 by omega, h]
        have p1 : 0 ≤ j - 1 := by omega
        have p2 : 1 ≤ j := by omega
        have p3 : j - 1 < s.size := by omega
        have hun : undot s j.toNat = if bt s (j - 1) = 46 then undot s (j.toNat - 1) else j.toNat := by
          obtain ⟨i, rfl⟩ : ∃ i : Nat, j = (i : Int) + 1 := ⟨(j - 1).toNat, by omega⟩
          simp [undot, show ((i : Int) + 1).toNat = i + 1 by omega]
        by_cases e1 : bt s (j - 1) = 46
        · rw [if_pos e1] at hun
          have b1 : (bt s (j - 1) == 46) = true := by simpa using e1
          have HE := Lib.hid (show (k : Int) ≠ j - 1 from fun h => by have := HK.out; rw [h] at this; omega)
          have HUN := Lib.hid hun
          clear e1 hun
          go_wp2
          go_round
          case rel => exact ⟨j - 1, by go_num, by have := HE.out; omega, by omega, Lib.hid (by rw [← HJ.out, HUN.out, show (j - 1).toNat = j.toNat - 1 by omega])⟩
          case measure => simp [intOf]; omega
        · rw [if_neg e1] at hun
          have b1 : (bt s (j - 1) == 46) = false := by simpa using e1
          have HT := Lib.hid (tok' g B s out w 2 j (undot s (k + 1 + m)) (s.extract 0 (undot s (k + 1 + m))) HS.out ho (by rw [← HJ.out, hun]; omega) (by rw [← HJ.out, hun]; omega))
          have HX := Lib.hid (show undot s (k + 1 + m) = j.toNat by rw [← HJ.out, hun])
          rw [HX.out] at HT ⊢
          clear e1 hun
          go_wp2_with ((with_reducible refine HT.out.mono ?_); rintro e w' ⟨rfl, h2, h3⟩)
          go_ret
          rw [HX.out]
          exact res_tok h2 h3
    | false =>
      rw [e0] at hlet
      have HL := Lib.hid hlet
      rw [e0, if_neg (by simp)] at hkd
      subst hkd
      have HA0 : Hid (Calls Tryd.prog 46 #[.pointer (some ⟨g, 0, none⟩), .int .i64 0] w fun e w' => e = .returned (.int .i32 58) ∧ w = w') := Lib.hid (by simpa using HA.out)
      have HR0 : Hid (Calls Tryd.prog 42 #[.pointer (some ⟨g, 0, none⟩), .int .i64 1, .func (.func 55) #[] #[]] w fun e w' => e = .returned (.int .i64 (m : Int)) ∧ w = w') := Lib.hid (by simpa using HR2.out)
      have HLA : Hid (Calls Tryd.prog 49 #[.int .i32 58] w fun e w' => e = .returned (.bool false) ∧ w = w') := Lib.hid (by have h1 := HL.out; have h2 := HK.out; simp only [Int.natCast_zero, Int.cast_ofNat_Int] at h2; rw [h2] at h1; exact h1)
      clear e0 hlet H0 HL HA HR2
      go_enter Tryd.func26, Tryd.ntmps26
      go_wp2_with (first | ((with_reducible refine HA0.out.mono ?_); rintro e w' ⟨rfl, rfl⟩) | ((with_reducible refine HLA.out.mono ?_); rintro e w' ⟨rfl, rfl⟩) | ((with_reducible refine HR0.out.mono ?_); rintro e w' ⟨rfl, rfl⟩))
      go_loop [3] (fun v => ∃ j : Int, v = .int .i64 j ∧ ((0 : Nat) : Int) < j ∧ j ≤ 0 + 1 + m ∧ Hid (undot s j.toNat = undot s (0 + 1 + m))) (fun v => (intOf v).toNat)
      case atStart => exact ⟨1 + m, by first | rfl | (simp; omega), by omega, by omega, Lib.hid (by rw [show ((1 : Int) + m).toNat = 0 + 1 + m by omega])⟩
      case round =>
        obtain ⟨j, rfl, hj1, hj2, HJ⟩ := hrel
        have hx : ∀ h : j.toNat - 1 < s.size, ((s[j.toNat - 1]'h).toNat : Int) = bt s (j - 1) := fun h => by simp [bt, show (j - 1).toNat = j.toNat - 1 by omega, h]
        have p1 : 0 ≤ j - 1 := by omega
        have p2 : 1 ≤ j := by omega
        have p3 : j - 1 < s.size := by omega
        have hun : undot s j.toNat = if bt s (j - 1) = 46 then undot s (j.toNat - 1) else j.toNat := by
          obtain ⟨i, rfl⟩ : ∃ i : Nat, j = (i : Int) + 1 := ⟨(j - 1).toNat, by omega⟩
          simp [undot, show ((i : Int) + 1).toNat = i + 1 by omega]
        by_cases e1 : bt s (j - 1) = 46
        · rw [if_pos e1] at hun
          have b1 : (bt s (j - 1) == 46) = true := by simpa using e1
          have HE := Lib.hid (show ((0 : Nat) : Int) ≠ j - 1 from fun h => by have := HK.out; rw [h] at this; omega)
          have HUN := Lib.hid hun
          clear e1 hun
          go_wp2
          go_round
          case rel => exact ⟨j - 1, by go_num, by have := HE.out; omega, by omega, Lib.hid (by rw [← HJ.out, HUN.out, show (j - 1).toNat = j.toNat - 1 by omega])⟩
          case measure => simp [intOf]; omega
        · rw [if_neg e1] at hun
          have b1 : (bt s (j - 1) == 46) = false := by simpa using e1
          have HT := Lib.hid (tok' g B s out w 2 j (undot s (0 + 1 + m)) (s.extract 0 (undot s (0 + 1 + m))) HS.out ho (by rw [← HJ.out, hun]; omega) (by rw [← HJ.out, hun]; omega))
          have HX := Lib.hid (show undot s (0 + 1 + m) = j.toNat by rw [← HJ.out, hun])
          rw [HX.out] at HT ⊢
          clear e1 hun
          go_wp2_with ((with_reducible refine HT.out.mono ?_); rintro e w' ⟨rfl, h2, h3⟩)
          go_ret
          rw [HX.out]
          exact res_tok h2 h3
  · rw [if_neg hk]
    have b0 : (bt s k != 58) = true := by rw [bne_iff_ne]; exact hk
    have HA := Lib.hid hatk
    cases e0 : letterB (bt s 0) with
    | true =>
      rw [e0] at hlet
      have HL := Lib.hid hlet
      rw [e0, if_pos rfl] at hkd
      rw [← hkd] at HR
      clear e0 hlet hkd hk hatk
      go_enter Tryd.func26, Tryd.ntmps26
      go_wp2_with (first | ((with_reducible refine HR.out.mono ?_); rintro e w' ⟨rfl, rfl⟩) | ((with_reducible refine H0.out.mono ?_); rintro e w' ⟨rfl, rfl⟩) | ((with_reducible refine HL.out.mono ?_); rintro e w' ⟨rfl, rfl⟩) | ((with_reducible refine HA.out.mono ?_); rintro e w' ⟨rfl, rfl⟩))
      go_ret
      exact res_none HS.out
    | false =>
      rw [e0] at hlet
      have HL := Lib.hid hlet
      rw [e0, if_neg (by simp)] at hkd
      subst hkd
      have b00 : (bt s 0 != 58) = true := by simpa using b0
      clear e0 hlet hk hatk b0 HA
      go_enter Tryd.func26, Tryd.ntmps26
      go_wp2_with (first | ((with_reducible refine H0.out.mono ?_); rintro e w' ⟨rfl, rfl⟩) | ((with_reducible refine HL.out.mono ?_); rintro e w' ⟨rfl, rfl⟩))
      go_ret
      exact res_none HS.out
end Go.Proofs.YtpgoemlnjocmhaaDoor.Lex
