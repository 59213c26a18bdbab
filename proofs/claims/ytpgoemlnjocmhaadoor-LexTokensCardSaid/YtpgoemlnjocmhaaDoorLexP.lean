/-
  A part of the proof of LexTokens (whatever the input, the law returns true and the input reads as it did): the reference: Tokens. Conditions stand at each theorem.
-/
import Derived.Test.YtpgoemlnjocmhaaDoorLexO
import Derived.Test.YtpgoemlnjocmhaaDoorLexS
import Derived.Test.YtpgoemlnjocmhaaDoorLexJ
namespace Go.Proofs.YtpgoemlnjocmhaaDoor.Lex
open Go.RowKit Go.Proofs.YtpgoemlnjocmhaaDoorW.PrintWords
set_option linter.unusedVariables false
set_option linter.unusedSimpArgs false

set_option maxHeartbeats 8000000 in
set_option maxRecDepth 100000 in
theorem rtokens_any (s : ByteArray) (w : World) (hs : s.size ≤ 140737488351232) :
    Calls Tryd.prog 8 #[.string s] w (TokPost (refT s) w) := by
  obtain ⟨i0, hi0, hz0, hz1, hz2⟩ := info_parts info_tok
  by_cases h4 : s.size > 4000
  · have hZ : refT s = ([], 5) := by unfold refT; rw [if_pos h4]
    rw [hZ]
    have hb : ((4000 : Int) < s.size) := by omega
    clear hZ
    go_enter Tryd.func8, Tryd.ntmps8
    go_wp2
    go_ret2
    exact ⟨_, rfl, own_nil _ _ _ _, Below.refl _ _⟩
  · have HZ := Lib.hid (show refT s = match refF (s.size + 1) s 0 [] with | some l => (l, 0) | none => ([], 6) by unfold refT; rw [if_neg h4]; rfl)
    have hb : (s.size : Int) ≤ 4000 := by omega
    go_enter Tryd.func8, Tryd.ntmps8
    go_wp2
    go_loopw [4, 5] (fun v4 v5 wr => ∃ (i : Nat) (out : List Tok) (k : Nat), v5 = .int .i64 i ∧ i ≤ s.size ∧ out.length ≤ i ∧ Hid (wr.ownsRow w.heap.size 48 2 v4 out.length (cellsOf out)) ∧ Hid (Below w.heap.size w wr) ∧ Hid (refF (s.size + 1) s 0 [] = refF k s i out ∧ s.size < k + i)) (fun _ v5 _ => s.size - (intOf v5).toNat)
    case atStart => exact ⟨0, [], s.size + 1, rfl, by omega, by simp, Lib.hid (own_nil _ _ _ _), Lib.hid (Below.refl _ _), Lib.hid ⟨rfl, by omega⟩⟩
    case round =>
      obtain ⟨i, out, k, rfl, hi, hol, HV, HB, HK⟩ := hrel
      obtain ⟨wo, rfl⟩ : ∃ wo : World, wo = wr := ⟨_, rfl⟩
      obtain ⟨k, rfl⟩ : ∃ m, k = m + 1 := ⟨k - 1, by have := HK.out.2; omega⟩
      by_cases hlt : i < s.size
      · have hst : refF (k + 1) s i out = if wsB (bt s i) = true then refF k s (i + 1) out else if bt s i = 35 then refF k s (i + cnt notNlB s i) out else match tokR s i with | none => none | some (kd, t, n) => refF k s n (out ++ [(kd, t)]) := by rw [refF, if_pos hlt]; rfl
        have hx : ∀ h : i < s.size, ((s[i]'h).toNat : Int) = bt s i := fun h => by simp [bt, h]
        have hbr := bt_range s i
        have hb1 := hbr.1
        have hb2 := hbr.2
        clear hbr
        cases hw : wsB (bt s i) with
        | true =>
          rw [if_pos hw] at hst
          have HST := Lib.hid hst
          have hc : bt s i = 32 ∨ bt s i = 9 ∨ bt s i = 10 ∨ bt s i = 13 := by simpa [wsB, or_assoc] using hw
          clear hst hw
          by_cases c32 : bt s i = 32
          · rw [c32] at hx
            clear hc c32
            go_wp2
            go_roundw
            case rel => exact ⟨i + 1, out, k, by go_num, by omega, by omega, HV, HB, Lib.hid ⟨by rw [HK.out.1, HST.out], by have := HK.out.2; omega⟩⟩
            case measure => simp [intOf]; omega
          by_cases c9 : bt s i = 9
          · rw [c9] at hx
            clear hc c32 c9
            go_wp2
            go_roundw
            case rel => exact ⟨i + 1, out, k, by go_num, by omega, by omega, HV, HB, Lib.hid ⟨by rw [HK.out.1, HST.out], by have := HK.out.2; omega⟩⟩
            case measure => simp [intOf]; omega
          by_cases c10 : bt s i = 10
          · rw [c10] at hx
            clear hc c32 c9 c10
            go_wp2
            go_roundw
            case rel => exact ⟨i + 1, out, k, by go_num, by omega, by omega, HV, HB, Lib.hid ⟨by rw [HK.out.1, HST.out], by have := HK.out.2; omega⟩⟩
            case measure => simp [intOf]; omega
          · have c13 : bt s i = 13 := by omega
            rw [c13] at hx
            clear hc c32 c9 c10 c13
            go_wp2
            go_roundw
            case rel => exact ⟨i + 1, out, k, by go_num, by omega, by omega, HV, HB, Lib.hid ⟨by rw [HK.out.1, HST.out], by have := HK.out.2; omega⟩⟩
            case measure => simp [intOf]; omega
        | false =>
          rw [if_neg (by rw [hw]; simp)] at hst
          have hn : bt s i ≠ 32 ∧ bt s i ≠ 9 ∧ bt s i ≠ 10 ∧ bt s i ≠ 13 := by simpa [wsB, and_assoc] using hw
          have n32 : (bt s i == 32) = false := beq_eq_false_iff_ne.2 hn.1
          have n9 : (bt s i == 9) = false := beq_eq_false_iff_ne.2 hn.2.1
          have n10 : (bt s i == 10) = false := beq_eq_false_iff_ne.2 hn.2.2.1
          have n13 : (bt s i == 13) = false := beq_eq_false_iff_ne.2 hn.2.2.2
          clear hn hw
          by_cases c35 : bt s i = 35
          · rw [if_pos c35] at hst
            have HST := Lib.hid hst
            have hle := cnt_le notNlB s i
            have hcp := cnt_yes notNlB s i hlt (by rw [c35]; rfl)
            have hgt : 0 < cnt notNlB s i := by omega
            have n35 : (bt s i == 35) = true := beq_iff_eq.2 c35
            clear hst c35 hcp
            generalize hcn : i + cnt notNlB s i = m at *
            have HM := Lib.hid hcn
            have hm1 : i < m := by omega
            have hm2 : m ≤ s.size := by omega
            clear hcn hle hgt
            go_wp2
            go_loop [5] (fun v => ∃ j : Nat, v = .int .i64 j ∧ i ≤ j ∧ j ≤ s.size ∧ Hid (m = j + cnt notNlB s j)) (fun v => s.size - (intOf v).toNat)
            case atStart => exact ⟨i, rfl, by omega, by omega, Lib.hid HM.out.symm⟩
            case round =>
              obtain ⟨j, rfl, hj1, hj2, HJ⟩ := hrel
              by_cases hlt2 : j < s.size
              · have hxj : ∀ h : j < s.size, ((s[j]'h).toNat : Int) = bt s j := fun h => by simp [bt, h]
                by_cases c10 : bt s j = 10
                · have HE := Lib.hid (show m = j by have := HJ.out; have := cnt_no notNlB s j hlt2 (by rw [c10]; rfl); omega)
                  have b10 : (bt s j != 10) = false := by rw [c10]; rfl
                  clear c10
                  go_wp2
                  go_roundw
                  case rel => exact ⟨j, out, k, rfl, by omega, by omega, HV, HB, Lib.hid ⟨by rw [HK.out.1, HST.out, HE.out], by have := HK.out.2; have := HE.out; omega⟩⟩
                  case measure => have := HE.out; simp [intOf]; omega
                · have HE := Lib.hid (cnt_yes notNlB s j hlt2 (by simp [notNlB, c10]))
                  have b10 : (bt s j != 10) = true := bne_iff_ne.2 c10
                  clear c10
                  go_wp2
                  go_round
                  case rel => exact ⟨j + 1, by go_num, by omega, by omega, Lib.hid (by have := HJ.out; have := HE.out; omega)⟩
                  case measure => simp [intOf]; omega
              · have HE := Lib.hid (show m = j by have := HJ.out; have := cnt_end notNlB s j hlt2; omega)
                go_wp2
                go_roundw
                case rel => exact ⟨j, out, k, rfl, by omega, by omega, HV, HB, Lib.hid ⟨by rw [HK.out.1, HST.out, HE.out], by have := HK.out.2; have := HE.out; omega⟩⟩
                case measure => have := HE.out; simp [intOf]; omega
          · rw [if_neg c35] at hst
            have n35 : (bt s i == 35) = false := beq_eq_false_iff_ne.2 c35
            have hone := rone_any s i wo hs hlt
            have htl := tok_tl s i hlt
            cases ht : tokR s i with
            | none =>
              rw [ht] at hst hone
              have HF := Lib.hid (show refT s = ([], 6) by rw [HZ.out, HK.out.1, hst])
              have HO := Lib.hid hone
              clear hst c35 ht htl hone
              go_wp2_with ((with_reducible refine HO.out.mono ?_); rintro e w2 ⟨kd, t, rfl, hb2⟩)
              go_ret2
              rw [HF.out]
              exact ⟨_, rfl, own_nil _ _ _ _, (HB.out.trans (hb2.mono HB.out.size)).alloc (by have := HB.out.size; have := hb2.size; omega) _⟩
            | some r =>
              obtain ⟨kd, t, n⟩ := r
              rw [ht] at hst hone htl
              have hn : i < n ∧ n ≤ s.size := by
                cases h : tokT (tl s i) with
                | none => rw [h] at htl; simp at htl
                | some r =>
                  obtain ⟨kd', t', n'⟩ := r
                  rw [h] at htl
                  have h1 := tokT_pos h
                  have h2 := tokT_le (by rw [tl_size]; omega) h
                  rw [tl_size] at h2
                  simp at htl
                  omega
              have HST := Lib.hid hst
              have HO := Lib.hid hone
              have hn1 := hn.1
              have hn2 := hn.2
              have nz : ((n : Int) == 0) = false := beq_eq_false_iff_ne.2 (by omega)
              clear hst c35 ht htl hone hn
              have hl4 : out.length < 4000 := by omega
              go_wp2_with fail
              refine HO.out.mono ?_
              rintro e w2 ⟨rfl, hb2⟩
              have HB2 := Lib.hid hb2
              have hsz2 := hb2.size
              have hszo := HB.out.size
              have HV2 := Lib.hid (pw_own_below HV.out hb2)
              clear hb2
              go_wp2_with (at_builtin; refine wpList_append_own _ rfl _ _ 26 rfl w.heap.size 48 i0 (.agg #[.int .i64 0, .string ⟨#[]⟩]) 2 24 Tryd.underlying26 hi0 hz0 hz1 hz2 rfl (by decide) _ _ _ rfl ((HV2.out.alloc _).alloc _) ⟨w2.heap.size + 1, 0, none⟩ 1 1 [.int .i64 kd, .string t] rfl rfl ?c1 ?c2 ?c3 ?c4 ?c5 ?_)
              case c1 =>
                intro j u hj
                match j, hj with
                | 0, hj => simp at hj; subst hj; simp [Addr.add]
                | 1, hj => simp at hj; subst hj; simp [Addr.add]
              case c2 => intro u hu; simp at hu; rcases hu with rfl | rfl <;> rfl
              case c3 => unfold maxLen; omega
              case c4 => omega
              case c5 => simp; omega
              intro v' w3 hown' hgrow _
              have HO3 := Lib.hid hown'
              have HB3 := Lib.hid (((((HB.out.trans (HB2.out.mono hszo)).alloc (by omega) _).alloc (by simp; omega) _).grown hgrow (by simp; omega) (fun k hk => own_base HV2.out k hk)))
              clear hown' hgrow
              go_wp2
              go_roundw
              case rel => exact ⟨n, out ++ [(kd, t)], k, rfl, by omega, by simp; omega, Lib.hid (by have := HO3.out; rw [cellsOf_snoc]; simpa using this), HB3, Lib.hid ⟨by rw [HK.out.1, HST.out], by have := HK.out.2; omega⟩⟩
              case measure => simp [intOf]; omega
      · have HF := Lib.hid (show refT s = (out, 0) by rw [HZ.out, HK.out.1, refF, if_neg hlt])
        obtain ⟨A2, c2, rfl⟩ := own_slice HV.out
        go_wp2
        go_ret2
        rw [HF.out]
        exact ⟨_, rfl, HV.out, HB.out⟩
end Go.Proofs.YtpgoemlnjocmhaaDoor.Lex
