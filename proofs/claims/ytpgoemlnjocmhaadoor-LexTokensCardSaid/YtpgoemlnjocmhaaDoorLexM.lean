/-
  A part of the proof of LexTokens (whatever the input, the law returns true and the input reads as it did): the reference: signs. Conditions stand at each theorem.
-/
import Derived.Test.YtpgoemlnjocmhaaDoorLexL
import Derived.Test.YtpgoemlnjocmhaaDoorLexH
namespace Go.Proofs.YtpgoemlnjocmhaaDoor.Lex
open Go.RowKit Go.Proofs.YtpgoemlnjocmhaaDoorW.PrintWords
set_option linter.unusedVariables false
set_option linter.unusedSimpArgs false

/-- How many bytes a TSign has; 0: there is none. -/
def oneAny (k : Nat) (c : Int) : Bool := (oneSigns.drop k).any (fun b => (b.toNat : Int) == c)
def oneV (k : Nat) : Int := ((oneSigns.getD k 0).toNat : Int)
theorem oneAny_step (k : Nat) (h : k < 20) (c : Int) : oneAny k c = ((oneV k == c) || oneAny (k + 1) c) := by
  unfold oneAny oneV
  have hl : k < oneSigns.length := h
  rw [List.drop_eq_getElem_cons hl, List.any_cons, List.getD_eq_getElem?_getD, List.getElem?_eq_getElem hl]
  rfl
theorem one_at (k : Nat) (hk : k < 20) (h : k < (⟨#[123, 125, 40, 41, 91, 93, 46, 59, 44, 61, 60, 62, 33, 43, 45, 42, 47, 124, 94, 63]⟩ : ByteArray).size) : (((⟨#[123, 125, 40, 41, 91, 93, 46, 59, 44, 61, 60, 62, 33, 43, 45, 42, 47, 124, 94, 63]⟩ : ByteArray)[k]'h).toNat : Int) = oneV k := by
  unfold oneV
  rw [List.getD_eq_getElem?_getD, List.getElem?_eq_getElem (show k < oneSigns.length from hk)]
  rfl
def signR (s : ByteArray) : Nat :=
  match twos.find? (fun p => Lib.hasPrefix s.data.toList p) with
  | some _ => 2
  | none => if oneAny 0 (bt s 0) then 1 else 0
theorem take2 (s : ByteArray) (a b : UInt8) (h : 1 < s.size) : ((s.extract 0 2).toList == [a, b]) = Lib.hasPrefix s.data.toList [a, b] := by
  rw [ByteArray.toList_eq, Lib.extract_data]
  have h2 : 1 < s.data.toList.length := by simpa using h
  rcases hl : s.data.toList with _ | ⟨x, _ | ⟨y, l⟩⟩
  · rw [hl] at h2; simp at h2
  · rw [hl] at h2; simp at h2
  · rw [Bool.eq_iff_iff]
    simp [Lib.hasPrefix, List.isPrefixOf]
    constructor
    · rintro ⟨rfl, rfl⟩; exact ⟨rfl, rfl⟩
    · rintro ⟨rfl, rfl⟩; exact ⟨rfl, rfl⟩
theorem take2_no (s : ByteArray) (a b : UInt8) (h : ¬ 1 < s.size) : Lib.hasPrefix s.data.toList [a, b] = false := by
  rw [Bool.eq_false_iff]
  intro h2
  have := hasPrefix_len h2
  simp at this
  omega
set_option maxHeartbeats 8000000 in
set_option maxRecDepth 100000 in
theorem rsgn_any (s : ByteArray) (w : World) (hs : s.size ≤ 140737488351232) (h0 : 0 < s.size) :
    Calls Tryd.prog 64 #[.string s] w fun e w' => e = .returned (.int .i64 (signR s)) ∧ Below w.heap.size w w' := by
  have HB := Lib.hid ((Below.refl w.heap.size w).alloc (Nat.le_refl _) (.cells #[.string ⟨#[38, 38]⟩, .string ⟨#[124, 124]⟩, .string ⟨#[33, 61]⟩, .string ⟨#[60, 61]⟩, .string ⟨#[62, 61]⟩, .string ⟨#[94, 94]⟩] 9 (0, 0)))
  have HD := Lib.hid (show signR s = match twos.find? (fun p => Lib.hasPrefix s.data.toList p) with | some _ => 2 | none => if oneAny 0 (bt s 0) then 1 else 0 from rfl)
  generalize signR s = r at *
  go_enter Tryd.func64, Tryd.ntmps64
  go_wp2
  go_loopw [4] (fun v wr => ∃ k : Nat, v = .int .i64 k ∧ k ≤ 6 ∧ (k = 0 ∨ 1 < s.size) ∧ (∃ nq, wr = (w.alloc (.cells #[.string ⟨#[38, 38]⟩, .string ⟨#[124, 124]⟩, .string ⟨#[33, 61]⟩, .string ⟨#[60, 61]⟩, .string ⟨#[62, 61]⟩, .string ⟨#[94, 94]⟩] 9 (0, 0))).drewN nq) ∧ Hid (twos.find? (fun p => Lib.hasPrefix s.data.toList p) = (twos.drop k).find? (fun p => Lib.hasPrefix s.data.toList p))) (fun v _ => 6 - (intOf v).toNat)
  case atStart => exact ⟨0, rfl, by omega, .inl rfl, ⟨0, rfl⟩, Lib.hid rfl⟩
  case round =>
    obtain ⟨k, rfl, hk, hk1, ⟨nq, rfl⟩, HK⟩ := hrel
    by_cases h1 : 1 < s.size
    · clear hk1
      rcases (show k = 0 ∨ k = 1 ∨ k = 2 ∨ k = 3 ∨ k = 4 ∨ k = 5 ∨ k = 6 by omega) with rfl | rfl | rfl | rfl | rfl | rfl | rfl
      · have ht := take2 s 38 38 h1
        cases hp : Lib.hasPrefix s.data.toList [38, 38] with
        | true =>
          rw [hp] at ht
          have HZ := Lib.hid (show r = 2 by rw [HD.out, HK.out]; simp [twos, hp])
          clear hp
          go_wp2
          go_quiet (fail)
          go_wp2
          go_ret
          exact ⟨by rw [HZ.out]; rfl, by first | exact bel_drewN HB.out _ | exact bel_drewN (bel_drewN HB.out _) _⟩
        | false =>
          rw [hp] at ht
          have HK2 := Lib.hid (show twos.find? (fun p => Lib.hasPrefix s.data.toList p) = (twos.drop 1).find? (fun p => Lib.hasPrefix s.data.toList p) by rw [HK.out]; simp [twos, hp])
          clear hp
          go_wp2
          go_quiet (fail)
          go_wp2
          go_roundw
          case rel => exact ⟨1, by first | rfl | simp, by omega, .inr h1, ⟨_, by first | rfl | rw [World.drewN_drewN]⟩, HK2⟩
          case measure => simp [intOf]
      · have ht := take2 s 124 124 h1
        cases hp : Lib.hasPrefix s.data.toList [124, 124] with
        | true =>
          rw [hp] at ht
          have HZ := Lib.hid (show r = 2 by rw [HD.out, HK.out]; simp [twos, hp])
          clear hp
          go_wp2
          go_quiet (fail)
          go_wp2
          go_ret
          exact ⟨by rw [HZ.out]; rfl, by first | exact bel_drewN HB.out _ | exact bel_drewN (bel_drewN HB.out _) _⟩
        | false =>
          rw [hp] at ht
          have HK2 := Lib.hid (show twos.find? (fun p => Lib.hasPrefix s.data.toList p) = (twos.drop 2).find? (fun p => Lib.hasPrefix s.data.toList p) by rw [HK.out]; simp [twos, hp])
          clear hp
          go_wp2
          go_quiet (fail)
          go_wp2
          go_roundw
          case rel => exact ⟨2, by first | rfl | simp, by omega, .inr h1, ⟨_, by first | rfl | rw [World.drewN_drewN]⟩, HK2⟩
          case measure => simp [intOf]
      · have ht := take2 s 33 61 h1
        cases hp : Lib.hasPrefix s.data.toList [33, 61] with
        | true =>
          rw [hp] at ht
          have HZ := Lib.hid (show r = 2 by rw [HD.out, HK.out]; simp [twos, hp])
          clear hp
          go_wp2
          go_quiet (fail)
          go_wp2
          go_ret
          exact ⟨by rw [HZ.out]; rfl, by first | exact bel_drewN HB.out _ | exact bel_drewN (bel_drewN HB.out _) _⟩
        | false =>
          rw [hp] at ht
          have HK2 := Lib.hid (show twos.find? (fun p => Lib.hasPrefix s.data.toList p) = (twos.drop 3).find? (fun p => Lib.hasPrefix s.data.toList p) by rw [HK.out]; simp [twos, hp])
          clear hp
          go_wp2
          go_quiet (fail)
          go_wp2
          go_roundw
          case rel => exact ⟨3, by first | rfl | simp, by omega, .inr h1, ⟨_, by first | rfl | rw [World.drewN_drewN]⟩, HK2⟩
          case measure => simp [intOf]
      · have ht := take2 s 60 61 h1
        cases hp : Lib.hasPrefix s.data.toList [60, 61] with
        | true =>
          rw [hp] at ht
          have HZ := Lib.hid (show r = 2 by rw [HD.out, HK.out]; simp [twos, hp])
          clear hp
          go_wp2
          go_quiet (fail)
          go_wp2
          go_ret
          exact ⟨by rw [HZ.out]; rfl, by first | exact bel_drewN HB.out _ | exact bel_drewN (bel_drewN HB.out _) _⟩
        | false =>
          rw [hp] at ht
          have HK2 := Lib.hid (show twos.find? (fun p => Lib.hasPrefix s.data.toList p) = (twos.drop 4).find? (fun p => Lib.hasPrefix s.data.toList p) by rw [HK.out]; simp [twos, hp])
          clear hp
          go_wp2
          go_quiet (fail)
          go_wp2
          go_roundw
          case rel => exact ⟨4, by first | rfl | simp, by omega, .inr h1, ⟨_, by first | rfl | rw [World.drewN_drewN]⟩, HK2⟩
          case measure => simp [intOf]
      · have ht := take2 s 62 61 h1
        cases hp : Lib.hasPrefix s.data.toList [62, 61] with
        | true =>
          rw [hp] at ht
          have HZ := Lib.hid (show r = 2 by rw [HD.out, HK.out]; simp [twos, hp])
          clear hp
          go_wp2
          go_quiet (fail)
          go_wp2
          go_ret
          exact ⟨by rw [HZ.out]; rfl, by first | exact bel_drewN HB.out _ | exact bel_drewN (bel_drewN HB.out _) _⟩
        | false =>
          rw [hp] at ht
          have HK2 := Lib.hid (show twos.find? (fun p => Lib.hasPrefix s.data.toList p) = (twos.drop 5).find? (fun p => Lib.hasPrefix s.data.toList p) by rw [HK.out]; simp [twos, hp])
          clear hp
          go_wp2
          go_quiet (fail)
          go_wp2
          go_roundw
          case rel => exact ⟨5, by first | rfl | simp, by omega, .inr h1, ⟨_, by first | rfl | rw [World.drewN_drewN]⟩, HK2⟩
          case measure => simp [intOf]
      · have ht := take2 s 94 94 h1
        cases hp : Lib.hasPrefix s.data.toList [94, 94] with
        | true =>
          rw [hp] at ht
          have HZ := Lib.hid (show r = 2 by rw [HD.out, HK.out]; simp [twos, hp])
          clear hp
          go_wp2
          go_quiet (fail)
          go_wp2
          go_ret
          exact ⟨by rw [HZ.out]; rfl, by first | exact bel_drewN HB.out _ | exact bel_drewN (bel_drewN HB.out _) _⟩
        | false =>
          rw [hp] at ht
          have HK2 := Lib.hid (show twos.find? (fun p => Lib.hasPrefix s.data.toList p) = (twos.drop 6).find? (fun p => Lib.hasPrefix s.data.toList p) by rw [HK.out]; simp [twos, hp])
          clear hp
          go_wp2
          go_quiet (fail)
          go_wp2
          go_roundw
          case rel => exact ⟨6, by first | rfl | simp, by omega, .inr h1, ⟨_, by first | rfl | rw [World.drewN_drewN]⟩, HK2⟩
          case measure => simp [intOf]
      · have HF := Lib.hid (show r = if oneAny 0 (bt s 0) then 1 else 0 by rw [HD.out, HK.out]; simp [twos])
        go_wp2
        go_loopw [6] (fun v wr => ∃ k : Nat, v = .int .i64 k ∧ k ≤ 20 ∧ (∃ nq, wr = (w.alloc (.cells #[.string ⟨#[38, 38]⟩, .string ⟨#[124, 124]⟩, .string ⟨#[33, 61]⟩, .string ⟨#[60, 61]⟩, .string ⟨#[62, 61]⟩, .string ⟨#[94, 94]⟩] 9 (0, 0))).drewN nq) ∧ Hid (oneAny 0 (bt s 0) = oneAny k (bt s 0))) (fun v _ => 20 - (intOf v).toNat)
        case atStart => exact ⟨0, rfl, by omega, ⟨nq, rfl⟩, Lib.hid rfl⟩
        case round =>
          clear HK
          obtain ⟨k, rfl, hk, ⟨nq, rfl⟩, HK⟩ := hrel
          have hx : ∀ h : 0 < s.size, ((s[0]'h).toNat : Int) = bt s 0 := fun h => by simp [bt, h]
          obtain ⟨V, hV⟩ : ∃ V, V = oneV k := ⟨_, rfl⟩
          have HST := Lib.hid (fun h => oneAny_step k h (bt s 0))
          by_cases hk20 : k = 20
          · subst hk20
            have HZ := Lib.hid (show r = 0 by rw [HF.out, HK.out]; rfl)
            clear hV
            go_wp2
            go_ret
            exact ⟨by rw [HZ.out]; rfl, bel_drewN HB.out _⟩
          · have hk19 : k < 20 := by omega
            have hx2 : ∀ h : k < (⟨#[123, 125, 40, 41, 91, 93, 46, 59, 44, 61, 60, 62, 33, 43, 45, 42, 47, 124, 94, 63]⟩ : ByteArray).size, (((⟨#[123, 125, 40, 41, 91, 93, 46, 59, 44, 61, 60, 62, 33, 43, 45, 42, 47, 124, 94, 63]⟩ : ByteArray)[k]'h).toNat : Int) = V := fun h => by rw [hV]; exact one_at k hk19 h
            have HST1 := Lib.hid (HST.out hk19)
            rw [← hV] at HST1
            clear hV hk20 HST
            by_cases e1 : bt s 0 = V
            · have b1 : (bt s 0 == V) = true := beq_iff_eq.2 e1
              have HZ := Lib.hid (show r = 1 by rw [HF.out, HK.out, HST1.out, e1]; simp)
              clear e1 HST1
              go_wp2
              go_quiet (fail)
              go_wp2
              go_ret
              exact ⟨by rw [HZ.out]; rfl, by first | exact bel_drewN HB.out _ | exact bel_drewN (bel_drewN HB.out _) _⟩
            · have b1 : (bt s 0 == V) = false := beq_eq_false_iff_ne.2 e1
              have e2 : (V == bt s 0) = false := beq_eq_false_iff_ne.2 (fun h => e1 h.symm)
              have HK2 := Lib.hid (show oneAny 0 (bt s 0) = oneAny (k + 1) (bt s 0) by rw [HK.out, HST1.out, e2, Bool.false_or])
              clear e1 e2 HST1
              go_wp2
              go_quiet (fail)
              go_wp2
              go_roundw
              case rel => exact ⟨k + 1, by first | rfl | simp | go_num, by omega, ⟨_, by first | rfl | rw [World.drewN_drewN]⟩, HK2⟩
              case measure => simp [intOf]; omega
    · obtain rfl : k = 0 := by omega
      have HF := Lib.hid (show r = if oneAny 0 (bt s 0) then 1 else 0 by rw [HD.out]; simp [twos, take2_no s _ _ h1])
      have hsz1 : s.size = 1 := by omega
      have HS1 := Lib.hid hsz1
      have hle1 : s.size ≤ 1 := by omega
      clear hsz1 hk1
      go_wp2
      go_loopw [6] (fun v wr => ∃ k : Nat, v = .int .i64 k ∧ k ≤ 20 ∧ (∃ nq, wr = (w.alloc (.cells #[.string ⟨#[38, 38]⟩, .string ⟨#[124, 124]⟩, .string ⟨#[33, 61]⟩, .string ⟨#[60, 61]⟩, .string ⟨#[62, 61]⟩, .string ⟨#[94, 94]⟩] 9 (0, 0))).drewN nq) ∧ Hid (oneAny 0 (bt s 0) = oneAny k (bt s 0))) (fun v _ => 20 - (intOf v).toNat)
      case atStart => exact ⟨0, rfl, by omega, ⟨nq, rfl⟩, Lib.hid rfl⟩
      case round =>
        clear HK
        obtain ⟨k, rfl, hk, ⟨nq, rfl⟩, HK⟩ := hrel
        have hx : ∀ h : 0 < s.size, ((s[0]'h).toNat : Int) = bt s 0 := fun h => by simp [bt, h]
        obtain ⟨V, hV⟩ : ∃ V, V = oneV k := ⟨_, rfl⟩
        have HST := Lib.hid (fun h => oneAny_step k h (bt s 0))
        by_cases hk20 : k = 20
        · subst hk20
          have HZ := Lib.hid (show r = 0 by rw [HF.out, HK.out]; rfl)
          clear hV
          go_wp2
          go_ret
          exact ⟨by rw [HZ.out]; rfl, bel_drewN HB.out _⟩
        · have hk19 : k < 20 := by omega
          have hx2 : ∀ h : k < (⟨#[123, 125, 40, 41, 91, 93, 46, 59, 44, 61, 60, 62, 33, 43, 45, 42, 47, 124, 94, 63]⟩ : ByteArray).size, (((⟨#[123, 125, 40, 41, 91, 93, 46, 59, 44, 61, 60, 62, 33, 43, 45, 42, 47, 124, 94, 63]⟩ : ByteArray)[k]'h).toNat : Int) = V := fun h => by rw [hV]; exact one_at k hk19 h
          have HST1 := Lib.hid (HST.out hk19)
          rw [← hV] at HST1
          clear hV hk20 HST
          by_cases e1 : bt s 0 = V
          · have b1 : (bt s 0 == V) = true := beq_iff_eq.2 e1
            have HZ := Lib.hid (show r = 1 by rw [HF.out, HK.out, HST1.out, e1]; simp)
            clear e1 HST1
            go_wp2
            go_quiet (fail)
            go_wp2
            go_ret
            exact ⟨by rw [HZ.out]; rfl, by first | exact bel_drewN HB.out _ | exact bel_drewN (bel_drewN HB.out _) _⟩
          · have b1 : (bt s 0 == V) = false := beq_eq_false_iff_ne.2 e1
            have e2 : (V == bt s 0) = false := beq_eq_false_iff_ne.2 (fun h => e1 h.symm)
            have HK2 := Lib.hid (show oneAny 0 (bt s 0) = oneAny (k + 1) (bt s 0) by rw [HK.out, HST1.out, e2, Bool.false_or])
            clear e1 e2 HST1
            go_wp2
            go_quiet (fail)
            go_wp2
            go_roundw
            case rel => exact ⟨k + 1, by first | rfl | simp | go_num, by omega, ⟨_, by first | rfl | rw [World.drewN_drewN]⟩, HK2⟩
            case measure => simp [intOf]; omega
end Go.Proofs.YtpgoemlnjocmhaaDoor.Lex
