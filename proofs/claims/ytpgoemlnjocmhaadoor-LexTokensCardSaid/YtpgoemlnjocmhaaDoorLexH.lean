/-
  A part of the proof of LexTokens (whatever the input, the law returns true and the input reads as it did): signs. Conditions stand at each theorem.
-/
import Derived.Test.YtpgoemlnjocmhaaDoorLexG
namespace Go.Proofs.YtpgoemlnjocmhaaDoor.Lex
open Go.RowKit Go.Proofs.YtpgoemlnjocmhaaDoorW.PrintWords
set_option linter.unusedVariables false
set_option linter.unusedSimpArgs false

def twos : List (List UInt8) := [[38, 38], [124, 124], [33, 61], [60, 61], [62, 61], [94, 94]]
def oneSigns : List UInt8 := [123, 125, 40, 41, 91, 93, 46, 59, 44, 61, 60, 62, 33, 43, 45, 42, 47, 124, 94, 63]
def signT (s : ByteArray) : Option (Int × ByteArray × Nat) :=
  match twos.find? (fun p => Lib.hasPrefix s.data.toList p) with
  | some p => some (9, ⟨p.toArray⟩, 2)
  | none => if Lib.indexByte oneSigns (bt s 0).toNat.toUInt8 < 0 then none else some (9, s.extract 0 1, 1)
theorem hasPrefix_len {s p : List UInt8} (h : Lib.hasPrefix s p = true) : p.length ≤ s.length := by
  unfold Lib.hasPrefix at h
  exact (List.isPrefixOf_iff_prefix.1 h).length_le

set_option maxHeartbeats 4000000 in
set_option maxRecDepth 100000 in
theorem sign_any (g B : Nat) (s : ByteArray) (out : List Tok) (w : World) (hS : Scan w g B s out) (ho : out.length < 4000) (hne : 0 < s.size) :
    Calls Tryd.prog 28 #[.pointer (some ⟨g, 0, none⟩)] w (Res (signT s) w g B s out) := by
  have hs := hS.sz
  have hgl := hS.lt
  have hBg := hS.ge
  have hS1 := hS.alloc (.cells #[.string ⟨#[38, 38]⟩, .string ⟨#[124, 124]⟩, .string ⟨#[33, 61]⟩, .string ⟨#[60, 61]⟩, .string ⟨#[62, 61]⟩, .string ⟨#[94, 94]⟩] 9 (0, 0))
  have hc1 := hS1.cell
  have hb1 : Below B w (w.alloc (.cells #[.string ⟨#[38, 38]⟩, .string ⟨#[124, 124]⟩, .string ⟨#[33, 61]⟩, .string ⟨#[60, 61]⟩, .string ⟨#[62, 61]⟩, .string ⟨#[94, 94]⟩] 9 (0, 0))) := (Below.refl B w).alloc (by omega) _
  have HS := Lib.hid hS1
  have HB := Lib.hid hb1
  have HD := Lib.hid (show signT s = _ from rfl)
  clear hS hS1 hb1
  go_enter Tryd.func28, Tryd.ntmps28
  go_wp2
  go_loop [4, 7] (fun _ v => ∃ k : Nat, v = .int .i64 k ∧ k ≤ 6 ∧ Hid (twos.find? (fun p => Lib.hasPrefix s.data.toList p) = (twos.drop k).find? (fun p => Lib.hasPrefix s.data.toList p))) (fun _ v => 6 - (intOf v).toNat)
  case atStart => exact ⟨0, rfl, by omega, Lib.hid rfl⟩
  case round =>
    obtain ⟨k, rfl, hk, HK⟩ := hrel
    rcases (show k = 0 ∨ k = 1 ∨ k = 2 ∨ k = 3 ∨ k = 4 ∨ k = 5 ∨ k = 6 by omega) with rfl | rfl | rfl | rfl | rfl | rfl | rfl
    · have hpre := fun W => Tryd.strings_HasPrefix s ⟨#[38, 38]⟩ W
      cases hp : Lib.hasPrefix s.data.toList [38, 38] with
      | true =>
        rw [hp] at hpre
        have HP := Lib.hid hpre
        have hlen := hasPrefix_len hp
        have hl2 : 2 ≤ s.size := by simpa using hlen
        have HZ := Lib.hid (show signT s = some (9, ⟨#[38, 38]⟩, 2) by unfold signT; rw [HK.out]; simp [twos, hp])
        have HT := Lib.hid (tok' g B s out _ 9 2 2 ⟨#[38, 38]⟩ HS.out ho rfl hl2)
        clear hp hpre hlen
        go_wp2_with (first | ((with_reducible refine (HP.out _).mono ?_); rintro e w' ⟨rfl, rfl⟩) | ((with_reducible refine HT.out.mono ?_); rintro e w' ⟨rfl, h2, h3⟩))
        go_ret
        rw [HZ.out]
        exact res_tok h2 (HB.out.trans h3)
      | false =>
        rw [hp] at hpre
        have HP := Lib.hid hpre
        have HK2 := Lib.hid (show twos.find? (fun p => Lib.hasPrefix s.data.toList p) = (twos.drop 1).find? (fun p => Lib.hasPrefix s.data.toList p) by rw [HK.out]; simp [twos, hp])
        clear hp hpre
        go_wp2_with ((with_reducible refine (HP.out _).mono ?_); rintro e w' ⟨rfl, rfl⟩)
        go_round
        case rel => exact ⟨1, by first | rfl | simp, by omega, HK2⟩
        case measure => simp [intOf]
    · have hpre := fun W => Tryd.strings_HasPrefix s ⟨#[124, 124]⟩ W
      cases hp : Lib.hasPrefix s.data.toList [124, 124] with
      | true =>
        rw [hp] at hpre
        have HP := Lib.hid hpre
        have hlen := hasPrefix_len hp
        have hl2 : 2 ≤ s.size := by simpa using hlen
        have HZ := Lib.hid (show signT s = some (9, ⟨#[124, 124]⟩, 2) by unfold signT; rw [HK.out]; simp [twos, hp])
        have HT := Lib.hid (tok' g B s out _ 9 2 2 ⟨#[124, 124]⟩ HS.out ho rfl hl2)
        clear hp hpre hlen
        go_wp2_with (first | ((with_reducible refine (HP.out _).mono ?_); rintro e w' ⟨rfl, rfl⟩) | ((with_reducible refine HT.out.mono ?_); rintro e w' ⟨rfl, h2, h3⟩))
        go_ret
        rw [HZ.out]
        exact res_tok h2 (HB.out.trans h3)
      | false =>
        rw [hp] at hpre
        have HP := Lib.hid hpre
        have HK2 := Lib.hid (show twos.find? (fun p => Lib.hasPrefix s.data.toList p) = (twos.drop 2).find? (fun p => Lib.hasPrefix s.data.toList p) by rw [HK.out]; simp [twos, hp])
        clear hp hpre
        go_wp2_with ((with_reducible refine (HP.out _).mono ?_); rintro e w' ⟨rfl, rfl⟩)
        go_round
        case rel => exact ⟨2, by first | rfl | simp, by omega, HK2⟩
        case measure => simp [intOf]
    · have hpre := fun W => Tryd.strings_HasPrefix s ⟨#[33, 61]⟩ W
      cases hp : Lib.hasPrefix s.data.toList [33, 61] with
      | true =>
        rw [hp] at hpre
        have HP := Lib.hid hpre
        have hlen := hasPrefix_len hp
        have hl2 : 2 ≤ s.size := by simpa using hlen
        have HZ := Lib.hid (show signT s = some (9, ⟨#[33, 61]⟩, 2) by unfold signT; rw [HK.out]; simp [twos, hp])
        have HT := Lib.hid (tok' g B s out _ 9 2 2 ⟨#[33, 61]⟩ HS.out ho rfl hl2)
        clear hp hpre hlen
        go_wp2_with (first | ((with_reducible refine (HP.out _).mono ?_); rintro e w' ⟨rfl, rfl⟩) | ((with_reducible refine HT.out.mono ?_); rintro e w' ⟨rfl, h2, h3⟩))
        go_ret
        rw [HZ.out]
        exact res_tok h2 (HB.out.trans h3)
      | false =>
        rw [hp] at hpre
        have HP := Lib.hid hpre
        have HK2 := Lib.hid (show twos.find? (fun p => Lib.hasPrefix s.data.toList p) = (twos.drop 3).find? (fun p => Lib.hasPrefix s.data.toList p) by rw [HK.out]; simp [twos, hp])
        clear hp hpre
        go_wp2_with ((with_reducible refine (HP.out _).mono ?_); rintro e w' ⟨rfl, rfl⟩)
        go_round
        case rel => exact ⟨3, by first | rfl | simp, by omega, HK2⟩
        case measure => simp [intOf]
    · have hpre := fun W => Tryd.strings_HasPrefix s ⟨#[60, 61]⟩ W
      cases hp : Lib.hasPrefix s.data.toList [60, 61] with
      | true =>
        rw [hp] at hpre
        have HP := Lib.hid hpre
        have hlen := hasPrefix_len hp
        have hl2 : 2 ≤ s.size := by simpa using hlen
        have HZ := Lib.hid (show signT s = some (9, ⟨#[60, 61]⟩, 2) by unfold signT; rw [HK.out]; simp [twos, hp])
        have HT := Lib.hid (tok' g B s out _ 9 2 2 ⟨#[60, 61]⟩ HS.out ho rfl hl2)
        clear hp hpre hlen
        go_wp2_with (first | ((with_reducible refine (HP.out _).mono ?_); rintro e w' ⟨rfl, rfl⟩) | ((with_reducible refine HT.out.mono ?_); rintro e w' ⟨rfl, h2, h3⟩))
        go_ret
        rw [HZ.out]
        exact res_tok h2 (HB.out.trans h3)
      | false =>
        rw [hp] at hpre
        have HP := Lib.hid hpre
        have HK2 := Lib.hid (show twos.find? (fun p => Lib.hasPrefix s.data.toList p) = (twos.drop 4).find? (fun p => Lib.hasPrefix s.data.toList p) by rw [HK.out]; simp [twos, hp])
        clear hp hpre
        go_wp2_with ((with_reducible refine (HP.out _).mono ?_); rintro e w' ⟨rfl, rfl⟩)
        go_round
        case rel => exact ⟨4, by first | rfl | simp, by omega, HK2⟩
        case measure => simp [intOf]
    · have hpre := fun W => Tryd.strings_HasPrefix s ⟨#[62, 61]⟩ W
      cases hp : Lib.hasPrefix s.data.toList [62, 61] with
      | true =>
        rw [hp] at hpre
        have HP := Lib.hid hpre
        have hlen := hasPrefix_len hp
        have hl2 : 2 ≤ s.size := by simpa using hlen
        have HZ := Lib.hid (show signT s = some (9, ⟨#[62, 61]⟩, 2) by unfold signT; rw [HK.out]; simp [twos, hp])
        have HT := Lib.hid (tok' g B s out _ 9 2 2 ⟨#[62, 61]⟩ HS.out ho rfl hl2)
        clear hp hpre hlen
        go_wp2_with (first | ((with_reducible refine (HP.out _).mono ?_); rintro e w' ⟨rfl, rfl⟩) | ((with_reducible refine HT.out.mono ?_); rintro e w' ⟨rfl, h2, h3⟩))
        go_ret
        rw [HZ.out]
        exact res_tok h2 (HB.out.trans h3)
      | false =>
        rw [hp] at hpre
        have HP := Lib.hid hpre
        have HK2 := Lib.hid (show twos.find? (fun p => Lib.hasPrefix s.data.toList p) = (twos.drop 5).find? (fun p => Lib.hasPrefix s.data.toList p) by rw [HK.out]; simp [twos, hp])
        clear hp hpre
        go_wp2_with ((with_reducible refine (HP.out _).mono ?_); rintro e w' ⟨rfl, rfl⟩)
        go_round
        case rel => exact ⟨5, by first | rfl | simp, by omega, HK2⟩
        case measure => simp [intOf]
    · have hpre := fun W => Tryd.strings_HasPrefix s ⟨#[94, 94]⟩ W
      cases hp : Lib.hasPrefix s.data.toList [94, 94] with
      | true =>
        rw [hp] at hpre
        have HP := Lib.hid hpre
        have hlen := hasPrefix_len hp
        have hl2 : 2 ≤ s.size := by simpa using hlen
        have HZ := Lib.hid (show signT s = some (9, ⟨#[94, 94]⟩, 2) by unfold signT; rw [HK.out]; simp [twos, hp])
        have HT := Lib.hid (tok' g B s out _ 9 2 2 ⟨#[94, 94]⟩ HS.out ho rfl hl2)
        clear hp hpre hlen
        go_wp2_with (first | ((with_reducible refine (HP.out _).mono ?_); rintro e w' ⟨rfl, rfl⟩) | ((with_reducible refine HT.out.mono ?_); rintro e w' ⟨rfl, h2, h3⟩))
        go_ret
        rw [HZ.out]
        exact res_tok h2 (HB.out.trans h3)
      | false =>
        rw [hp] at hpre
        have HP := Lib.hid hpre
        have HK2 := Lib.hid (show twos.find? (fun p => Lib.hasPrefix s.data.toList p) = (twos.drop 6).find? (fun p => Lib.hasPrefix s.data.toList p) by rw [HK.out]; simp [twos, hp])
        clear hp hpre
        go_wp2_with ((with_reducible refine (HP.out _).mono ?_); rintro e w' ⟨rfl, rfl⟩)
        go_round
        case rel => exact ⟨6, by first | rfl | simp, by omega, HK2⟩
        case measure => simp [intOf]
    · have hI := fun W => Tryd.strings_IndexByte ⟨#[123, 125, 40, 41, 91, 93, 46, 59, 44, 61, 60, 62, 33, 43, 45, 42, 47, 124, 94, 63]⟩ (bt s 0) W
      have hZ : signT s = if Lib.indexByte oneSigns (bt s 0).toNat.toUInt8 < 0 then none else some (9, s.extract 0 1, 1) := by unfold signT; rw [HK.out]; simp [twos]
      have hx : ∀ h : 0 < s.size, ((s[0]'h).toNat : Int) = bt s 0 := fun h => by simp [bt, h]
      change ∀ W, Calls _ _ _ W fun e w' => e = .returned (.int .i64 (Lib.indexByte oneSigns (bt s 0).toNat.toUInt8)) ∧ w' = W at hI
      by_cases h1 : Lib.indexByte oneSigns (bt s 0).toNat.toUInt8 < 0
      · rw [if_pos h1] at hZ
        have HZ := Lib.hid hZ
        generalize Lib.indexByte oneSigns (bt s 0).toNat.toUInt8 = r at *
        have HI := Lib.hid hI
        clear hI hZ
        go_wp2_with ((with_reducible refine (HI.out _).mono ?_); rintro e w' ⟨rfl, rfl⟩)
        go_ret
        rw [HZ.out]
        exact ⟨rfl, HS.out, HB.out⟩
      · rw [if_neg h1] at hZ
        have HZ := Lib.hid hZ
        generalize Lib.indexByte oneSigns (bt s 0).toNat.toUInt8 = r at *
        have HI := Lib.hid hI
        have HT := Lib.hid (tok' g B s out _ 9 1 1 (s.extract 0 1) HS.out ho rfl (by omega))
        clear hI hZ
        go_wp2_with (first | ((with_reducible refine (HI.out _).mono ?_); rintro e w' ⟨rfl, rfl⟩) | ((with_reducible refine HT.out.mono ?_); rintro e w' ⟨rfl, h2, h3⟩))
        go_ret
        rw [HZ.out]
        exact res_tok h2 (HB.out.trans h3)
end Go.Proofs.YtpgoemlnjocmhaaDoor.Lex
