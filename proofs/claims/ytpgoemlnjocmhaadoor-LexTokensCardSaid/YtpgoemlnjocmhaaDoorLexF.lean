/-
  A part of the proof of LexTokens (whatever the input, the law returns true and the input reads as it did): texts. Conditions stand at each theorem.
-/
import Derived.Test.YtpgoemlnjocmhaaDoorLexE
import Derived.WalkMore
namespace Go.Proofs.YtpgoemlnjocmhaaDoor.Lex
open Go.RowKit Go.Proofs.YtpgoemlnjocmhaaDoorW.PrintWords
set_option linter.unusedVariables false
set_option linter.unusedSimpArgs false

theorem Scan.grown {W W1 : World} {g B : Nat} {s : ByteArray} {out : List Tok} (h : Scan W g B s out) {e B' n : Nat} {u : Value} {xs : List Value} {sz : Nat} (ho : W.ownsRow B' e sz u n xs) (he : e ≠ 52) (he2 : e ≠ 48) (hg : W.grownBy W1 u.ownBlock) : Scan W1 g B s out := by
  obtain ⟨v, hb, hv, h1, h2, h3⟩ := h
  have hne : some g ≠ u.ownBlock := own_ne ho hb he
  refine ⟨v, by rw [hg.block g (blk_lt hb) hne]; exact hb, own_other hv hg ?_, h1, h2, h3⟩
  rcases hvb : v.ownBlock with _ | k
  · exact .inl rfl
  · right
    intro hk
    obtain ⟨c1, t1⟩ := own_typed hv k hvb
    obtain ⟨c2, t2⟩ := own_typed ho k hk.symm
    rw [t1] at t2
    injection t2 with t2
    injection t2 with _ t2
    exact he2 t2.symm

/-- The text of a quoted one, from place i on; acc: what was read. -/
def textF (s : ByteArray) (q : Int) : Nat → Nat → List Int → Option (List Int × Nat)
  | 0, _, _ => none
  | k + 1, i, acc =>
    if i < s.size then
      if bt s i = q then some (acc, i + 1)
      else if bt s i = 10 then none
      else if bt s i = 92 then (if escB (bt s (i + 1 : Nat)) = 0 then none else textF s q k (i + 2) (acc ++ [escB (bt s (i + 1 : Nat))]))
      else textF s q k (i + 1) (acc ++ [bt s i])
    else none
def textT (s : ByteArray) : Option (Int × ByteArray × Nat) :=
  if bt s 0 = 34 ∨ bt s 0 = 39 then (textF s (bt s 0) (s.size + 1) 1 []).map fun r => (5, strOfNums r.1, r.2) else none

theorem escB_lt {s : ByteArray} {i : Nat} (h : escB (bt s i) ≠ 0) : i < s.size := by
  rcases Nat.lt_or_ge i s.size with h1 | h1
  · exact h1
  · exact absurd (show escB (bt s i) = 0 by unfold bt; rw [dif_neg (by omega)]; rfl) h
theorem escB_range (c : Int) (h0 : 0 ≤ c) (h1 : c ≤ 255) : 0 ≤ escB c ∧ escB c ≤ 255 := by
  unfold escB
  repeat' split
  all_goals omega
theorem info_u8 : (Tryd.prog.info? 5).map (fun i => (i.zero, i.size, i.bytes)) = some (some (.int .u8 0), 1, 1) := by kernel_rfl

set_option maxHeartbeats 4000000 in
set_option maxRecDepth 100000 in
theorem text_any (g B : Nat) (s : ByteArray) (out : List Tok) (w : World) (hS : Scan w g B s out) (ho : out.length < 4000) :
    Calls Tryd.prog 23 #[.pointer (some ⟨g, 0, none⟩)] w (Res (textT s) w g B s out) := by
  have hc := hS.cell
  have hs := hS.sz
  have hgl := hS.lt
  have hBg := hS.ge
  have hat0 := at_any g s w 0 hc hs (by omega)
  obtain ⟨i0, hi, hz0, hz1, hz2⟩ := info_parts info_u8
  unfold textT
  by_cases e0 : bt s 0 = 34 ∨ bt s 0 = 39
  · rw [if_pos e0]
    have hs1 : 0 < s.size := by rcases e0 with e0 | e0 <;> exact bt_lt (i := 0) e0 (by omega)
    generalize bt s 0 = q at *
    have H0 := Lib.hid hat0
    have HQ := Lib.hid e0
    have HS := Lib.hid hS
    clear hat0 e0 hS
    rcases HQ.out with rfl | rfl
    · clear HQ
      go_enter Tryd.func23, Tryd.ntmps23
      go_wp2
      go_step3
      go_wp2_with ((with_reducible refine H0.out.mono ?_); rintro e w' ⟨rfl, rfl⟩)
      go_step3
      go_wp2
      go_loopw [4, 5] (fun v4 v5 wr => ∃ (i : Nat) (acc : List Int) (kf : Nat), v5 = .int .i64 i ∧ 1 ≤ i ∧ i ≤ s.size ∧ acc.length ≤ i ∧ Hid (wr.ownsRow B 5 1 v4 acc.length (nums .u8 acc)) ∧ Hid (Scan wr g B s out) ∧ Hid (Below B w wr) ∧ Hid (textF s 34 (s.size + 1) 1 [] = textF s 34 kf i acc ∧ s.size < kf + i)) (fun _ v5 _ => s.size + 2 - (intOf v5).toNat)
      case atStart => exact ⟨1, [], s.size + 1, rfl, by omega, by omega, by simp, Lib.hid (own_nil _ _ _ _), HS, Lib.hid (Below.refl _ _), Lib.hid ⟨rfl, by omega⟩⟩
      case round =>
        obtain ⟨i, acc, kf, rfl, hi1, hi2, hal, HV, HSr, HBr, HF⟩ := hrel
        have hcr := HSr.out.cell
        by_cases hlt : i < s.size
        · obtain ⟨kf, rfl⟩ : ∃ m, kf = m + 1 := ⟨kf - 1, by have := HF.out.2; omega⟩
          have hstep : textF s 34 (kf + 1) i acc = if bt s i = 34 then some (acc, i + 1) else if bt s i = 10 then none else if bt s i = 92 then (if escB (bt s (i + 1 : Nat)) = 0 then none else textF s 34 kf (i + 2) (acc ++ [escB (bt s (i + 1 : Nat))])) else textF s 34 kf (i + 1) (acc ++ [bt s i]) := by rw [textF, if_pos hlt]
          have hx : ∀ h : i < s.size, ((s[i]'h).toNat : Int) = bt s i := fun h => by simp [bt, h]
          have hbr := bt_range s i
          have hb1 := hbr.1
          have hb2 := hbr.2
          clear hbr
          by_cases e1 : bt s i = 34
          · rw [if_pos e1] at hstep
            have hcv := own_string (P := Tryd.prog) Tryd.underlying73 Tryd.underlying5 Tryd.underlying9 HV.out
            have HT := Lib.hid (tok' g B s out wr 5 (i + 1) (i + 1) (strOfNums acc) HSr.out ho rfl (by omega))
            have HZ := Lib.hid (show (textF s 34 (s.size + 1) 1 []) = some (acc, i + 1) by rw [HF.out.1, hstep])
            have b1 : (bt s i == 34) = true := by simpa using e1
            clear hstep e1
            go_wp2_with ((with_reducible refine HT.out.mono ?_); rintro e w' ⟨rfl, h2, h3⟩)
            (try rw [Exit.noGoto_ret])
            go_ret
            rw [HZ.out]
            exact res_tok h2 (HBr.out.trans h3)
          rw [if_neg e1] at hstep
          have b1 : (bt s i == 34) = false := by simpa using e1
          by_cases e2 : bt s i = 10
          · rw [if_pos e2] at hstep
            have HZ := Lib.hid (show (textF s 34 (s.size + 1) 1 []) = none by rw [HF.out.1, hstep])
            have b2 : (bt s i == 10) = true := by simpa using e2
            clear hstep e1 e2
            go_wp2
            (try rw [Exit.noGoto_ret])
            go_ret
            rw [HZ.out]
            exact ⟨rfl, HSr.out, HBr.out⟩
          rw [if_neg e2] at hstep
          have b2 : (bt s i == 10) = false := by simpa using e2
          by_cases e3 : bt s i = 92
          · rw [if_pos e3] at hstep
            have b3 : (bt s i == 92) = true := by simpa using e3
            have HA := Lib.hid (at_any g s wr (i + 1 : Nat) hcr hs (by omega))
            have hr2 := bt_range s (i + 1 : Nat)
            have HE := Lib.hid (escaped_any (bt s (i + 1 : Nat)) wr hr2.1 hr2.2)
            have hel := @escB_lt s (i + 1)
            have her := escB_range _ hr2.1 hr2.2
            generalize bt s (i + 1 : Nat) = d at *
            simp only [Int.natCast_add, Int.natCast_one] at HA
            generalize escB d = ed at *
            clear e1 e2 e3
            by_cases e4 : ed = 0
            · rw [if_pos e4] at hstep
              have HZ := Lib.hid (show (textF s 34 (s.size + 1) 1 []) = none by rw [HF.out.1, hstep])
              subst e4
              clear hstep hel
              go_wp2_with (first | ((with_reducible refine HA.out.mono ?_); rintro e w' ⟨rfl, rfl⟩) | ((with_reducible refine HE.out.mono ?_); rintro e w' ⟨rfl, rfl⟩))
              (try rw [Exit.noGoto_ret])
              go_ret
              rw [HZ.out]
              exact ⟨rfl, HSr.out, HBr.out⟩
            · rw [if_neg e4] at hstep
              have hil := hel e4
              have b4 : (ed == 0) = false := by simpa using e4
              have he1 := her.1
              have he2 := her.2
              have HST := Lib.hid hstep
              clear e4 her hel hstep
              go_wp2_with (first | ((with_reducible refine HA.out.mono ?_); rintro e w' ⟨rfl, rfl⟩) | ((with_reducible refine HE.out.mono ?_); rintro e w' ⟨rfl, rfl⟩) | (at_builtin; refine wpList_append_own _ rfl _ _ 73 rfl B 5 i0 (.int .u8 0) 1 1 Tryd.underlying73 hi hz0 hz1 hz2 rfl (by decide) _ _ _ rfl (HV.out.alloc _) ⟨wr.heap.size, 0, none⟩ 1 1 [.int .u8 (ed)] rfl rfl ?c1 ?c2 ?c3 ?c4 ?c5 ?_))
              case c1 =>
                intro j u hj
                match j, hj with
                | 0, hj => simp at hj; subst hj; simp [Addr.add]
              case c2 => intro u hu; simp at hu; subst hu; rfl
              case c3 => unfold maxLen; omega
              case c4 => omega
              case c5 => have := HSr.out.lt; simp; omega
              intro v' w1 hown' hgrow _
              have HO := Lib.hid hown'
              have HSw := Lib.hid ((HSr.out.alloc (.cells #[.int .u8 (ed)] 5 (0, 0))).grown (HV.out.alloc _) (by decide) (by decide) hgrow)
              have HBw := Lib.hid ((HBr.out.alloc (by have := HSr.out.lt; omega) (.cells #[.int .u8 (ed)] 5 (0, 0))).grown hgrow (by have := HSr.out.lt; simp; omega) (fun k hk => own_base HV.out k hk))
              clear hown' hgrow
              go_wp2
              go_roundw
              case rel => exact ⟨i + 2, acc ++ [ed], kf, by go_num, by omega, by omega, by simp; omega, Lib.hid (by have := HO.out; simpa [nums_append, nums] using this), HSw, HBw, Lib.hid ⟨by rw [HF.out.1, HST.out], by have := HF.out.2; omega⟩⟩
              case measure => simp [intOf]; omega

          rw [if_neg e3] at hstep
          have b3 : (bt s i == 92) = false := by simpa using e3
          have HST := Lib.hid hstep
          clear e1 e2 e3 hstep
          go_wp2_with ((at_builtin; refine wpList_append_own _ rfl _ _ 73 rfl B 5 i0 (.int .u8 0) 1 1 Tryd.underlying73 hi hz0 hz1 hz2 rfl (by decide) _ _ _ rfl (HV.out.alloc _) ⟨wr.heap.size, 0, none⟩ 1 1 [.int .u8 (bt s i)] rfl rfl ?c1 ?c2 ?c3 ?c4 ?c5 ?_))
          case c1 =>
            intro j u hj
            match j, hj with
            | 0, hj => simp at hj; subst hj; simp [Addr.add]
          case c2 => intro u hu; simp at hu; subst hu; rfl
          case c3 => unfold maxLen; omega
          case c4 => omega
          case c5 => have := HSr.out.lt; simp; omega
          intro v' w1 hown' hgrow _
          have HO := Lib.hid hown'
          have HSw := Lib.hid ((HSr.out.alloc (.cells #[.int .u8 (bt s i)] 5 (0, 0))).grown (HV.out.alloc _) (by decide) (by decide) hgrow)
          have HBw := Lib.hid ((HBr.out.alloc (by have := HSr.out.lt; omega) (.cells #[.int .u8 (bt s i)] 5 (0, 0))).grown hgrow (by have := HSr.out.lt; simp; omega) (fun k hk => own_base HV.out k hk))
          clear hown' hgrow
          go_wp2
          go_roundw
          case rel => exact ⟨i + 1, acc ++ [bt s i], kf, by go_num, by omega, by omega, by simp; omega, Lib.hid (by have := HO.out; simpa [nums_append, nums] using this), HSw, HBw, Lib.hid ⟨by rw [HF.out.1, HST.out], by have := HF.out.2; omega⟩⟩
          case measure => simp [intOf]; omega

        · have hz : textF s 34 kf i acc = none := by cases kf <;> simp [textF, hlt]
          have HZ := Lib.hid (show (textF s 34 (s.size + 1) 1 []) = none by rw [HF.out.1, hz])
          clear hz
          go_wp2
          (try rw [Exit.noGoto_ret])
          go_ret
          rw [HZ.out]
          exact ⟨rfl, HSr.out, HBr.out⟩
    · clear HQ
      go_enter Tryd.func23, Tryd.ntmps23
      go_wp2
      go_step3
      go_wp2_with ((with_reducible refine H0.out.mono ?_); rintro e w' ⟨rfl, rfl⟩)
      go_step3
      go_wp2
      go_loopw [4, 5] (fun v4 v5 wr => ∃ (i : Nat) (acc : List Int) (kf : Nat), v5 = .int .i64 i ∧ 1 ≤ i ∧ i ≤ s.size ∧ acc.length ≤ i ∧ Hid (wr.ownsRow B 5 1 v4 acc.length (nums .u8 acc)) ∧ Hid (Scan wr g B s out) ∧ Hid (Below B w wr) ∧ Hid (textF s 39 (s.size + 1) 1 [] = textF s 39 kf i acc ∧ s.size < kf + i)) (fun _ v5 _ => s.size + 2 - (intOf v5).toNat)
      case atStart => exact ⟨1, [], s.size + 1, rfl, by omega, by omega, by simp, Lib.hid (own_nil _ _ _ _), HS, Lib.hid (Below.refl _ _), Lib.hid ⟨rfl, by omega⟩⟩
      case round =>
        obtain ⟨i, acc, kf, rfl, hi1, hi2, hal, HV, HSr, HBr, HF⟩ := hrel
        have hcr := HSr.out.cell
        by_cases hlt : i < s.size
        · obtain ⟨kf, rfl⟩ : ∃ m, kf = m + 1 := ⟨kf - 1, by have := HF.out.2; omega⟩
          have hstep : textF s 39 (kf + 1) i acc = if bt s i = 39 then some (acc, i + 1) else if bt s i = 10 then none else if bt s i = 92 then (if escB (bt s (i + 1 : Nat)) = 0 then none else textF s 39 kf (i + 2) (acc ++ [escB (bt s (i + 1 : Nat))])) else textF s 39 kf (i + 1) (acc ++ [bt s i]) := by rw [textF, if_pos hlt]
          have hx : ∀ h : i < s.size, ((s[i]'h).toNat : Int) = bt s i := fun h => by simp [bt, h]
          have hbr := bt_range s i
          have hb1 := hbr.1
          have hb2 := hbr.2
          clear hbr
          by_cases e1 : bt s i = 39
          · rw [if_pos e1] at hstep
            have hcv := own_string (P := Tryd.prog) Tryd.underlying73 Tryd.underlying5 Tryd.underlying9 HV.out
            have HT := Lib.hid (tok' g B s out wr 5 (i + 1) (i + 1) (strOfNums acc) HSr.out ho rfl (by omega))
            have HZ := Lib.hid (show (textF s 39 (s.size + 1) 1 []) = some (acc, i + 1) by rw [HF.out.1, hstep])
            have b1 : (bt s i == 39) = true := by simpa using e1
            clear hstep e1
            go_wp2_with ((with_reducible refine HT.out.mono ?_); rintro e w' ⟨rfl, h2, h3⟩)
            (try rw [Exit.noGoto_ret])
            go_ret
            rw [HZ.out]
            exact res_tok h2 (HBr.out.trans h3)
          rw [if_neg e1] at hstep
          have b1 : (bt s i == 39) = false := by simpa using e1
          by_cases e2 : bt s i = 10
          · rw [if_pos e2] at hstep
            have HZ := Lib.hid (show (textF s 39 (s.size + 1) 1 []) = none by rw [HF.out.1, hstep])
            have b2 : (bt s i == 10) = true := by simpa using e2
            clear hstep e1 e2
            go_wp2
            (try rw [Exit.noGoto_ret])
            go_ret
            rw [HZ.out]
            exact ⟨rfl, HSr.out, HBr.out⟩
          rw [if_neg e2] at hstep
          have b2 : (bt s i == 10) = false := by simpa using e2
          by_cases e3 : bt s i = 92
          · rw [if_pos e3] at hstep
            have b3 : (bt s i == 92) = true := by simpa using e3
            have HA := Lib.hid (at_any g s wr (i + 1 : Nat) hcr hs (by omega))
            have hr2 := bt_range s (i + 1 : Nat)
            have HE := Lib.hid (escaped_any (bt s (i + 1 : Nat)) wr hr2.1 hr2.2)
            have hel := @escB_lt s (i + 1)
            have her := escB_range _ hr2.1 hr2.2
            generalize bt s (i + 1 : Nat) = d at *
            simp only [Int.natCast_add, Int.natCast_one] at HA
            generalize escB d = ed at *
            clear e1 e2 e3
            by_cases e4 : ed = 0
            · rw [if_pos e4] at hstep
              have HZ := Lib.hid (show (textF s 39 (s.size + 1) 1 []) = none by rw [HF.out.1, hstep])
              subst e4
              clear hstep hel
              go_wp2_with (first | ((with_reducible refine HA.out.mono ?_); rintro e w' ⟨rfl, rfl⟩) | ((with_reducible refine HE.out.mono ?_); rintro e w' ⟨rfl, rfl⟩))
              (try rw [Exit.noGoto_ret])
              go_ret
              rw [HZ.out]
              exact ⟨rfl, HSr.out, HBr.out⟩
            · rw [if_neg e4] at hstep
              have hil := hel e4
              have b4 : (ed == 0) = false := by simpa using e4
              have he1 := her.1
              have he2 := her.2
              have HST := Lib.hid hstep
              clear e4 her hel hstep
              go_wp2_with (first | ((with_reducible refine HA.out.mono ?_); rintro e w' ⟨rfl, rfl⟩) | ((with_reducible refine HE.out.mono ?_); rintro e w' ⟨rfl, rfl⟩) | (at_builtin; refine wpList_append_own _ rfl _ _ 73 rfl B 5 i0 (.int .u8 0) 1 1 Tryd.underlying73 hi hz0 hz1 hz2 rfl (by decide) _ _ _ rfl (HV.out.alloc _) ⟨wr.heap.size, 0, none⟩ 1 1 [.int .u8 (ed)] rfl rfl ?c1 ?c2 ?c3 ?c4 ?c5 ?_))
              case c1 =>
                intro j u hj
                match j, hj with
                | 0, hj => simp at hj; subst hj; simp [Addr.add]
              case c2 => intro u hu; simp at hu; subst hu; rfl
              case c3 => unfold maxLen; omega
              case c4 => omega
              case c5 => have := HSr.out.lt; simp; omega
              intro v' w1 hown' hgrow _
              have HO := Lib.hid hown'
              have HSw := Lib.hid ((HSr.out.alloc (.cells #[.int .u8 (ed)] 5 (0, 0))).grown (HV.out.alloc _) (by decide) (by decide) hgrow)
              have HBw := Lib.hid ((HBr.out.alloc (by have := HSr.out.lt; omega) (.cells #[.int .u8 (ed)] 5 (0, 0))).grown hgrow (by have := HSr.out.lt; simp; omega) (fun k hk => own_base HV.out k hk))
              clear hown' hgrow
              go_wp2
              go_roundw
              case rel => exact ⟨i + 2, acc ++ [ed], kf, by go_num, by omega, by omega, by simp; omega, Lib.hid (by have := HO.out; simpa [nums_append, nums] using this), HSw, HBw, Lib.hid ⟨by rw [HF.out.1, HST.out], by have := HF.out.2; omega⟩⟩
              case measure => simp [intOf]; omega

          rw [if_neg e3] at hstep
          have b3 : (bt s i == 92) = false := by simpa using e3
          have HST := Lib.hid hstep
          clear e1 e2 e3 hstep
          go_wp2_with ((at_builtin; refine wpList_append_own _ rfl _ _ 73 rfl B 5 i0 (.int .u8 0) 1 1 Tryd.underlying73 hi hz0 hz1 hz2 rfl (by decide) _ _ _ rfl (HV.out.alloc _) ⟨wr.heap.size, 0, none⟩ 1 1 [.int .u8 (bt s i)] rfl rfl ?c1 ?c2 ?c3 ?c4 ?c5 ?_))
          case c1 =>
            intro j u hj
            match j, hj with
            | 0, hj => simp at hj; subst hj; simp [Addr.add]
          case c2 => intro u hu; simp at hu; subst hu; rfl
          case c3 => unfold maxLen; omega
          case c4 => omega
          case c5 => have := HSr.out.lt; simp; omega
          intro v' w1 hown' hgrow _
          have HO := Lib.hid hown'
          have HSw := Lib.hid ((HSr.out.alloc (.cells #[.int .u8 (bt s i)] 5 (0, 0))).grown (HV.out.alloc _) (by decide) (by decide) hgrow)
          have HBw := Lib.hid ((HBr.out.alloc (by have := HSr.out.lt; omega) (.cells #[.int .u8 (bt s i)] 5 (0, 0))).grown hgrow (by have := HSr.out.lt; simp; omega) (fun k hk => own_base HV.out k hk))
          clear hown' hgrow
          go_wp2
          go_roundw
          case rel => exact ⟨i + 1, acc ++ [bt s i], kf, by go_num, by omega, by omega, by simp; omega, Lib.hid (by have := HO.out; simpa [nums_append, nums] using this), HSw, HBw, Lib.hid ⟨by rw [HF.out.1, HST.out], by have := HF.out.2; omega⟩⟩
          case measure => simp [intOf]; omega

        · have hz : textF s 39 kf i acc = none := by cases kf <;> simp [textF, hlt]
          have HZ := Lib.hid (show (textF s 39 (s.size + 1) 1 []) = none by rw [HF.out.1, hz])
          clear hz
          go_wp2
          (try rw [Exit.noGoto_ret])
          go_ret
          rw [HZ.out]
          exact ⟨rfl, HSr.out, HBr.out⟩
  · rw [if_neg e0]
    have b0 : (bt s 0 != 34) = true := by rw [bne_iff_ne]; exact fun h => e0 (.inl h)
    have b1 : (bt s 0 != 39) = true := by rw [bne_iff_ne]; exact fun h => e0 (.inr h)
    have H0 := Lib.hid hat0
    clear e0 hat0
    go_enter Tryd.func23, Tryd.ntmps23
    go_wp2
    go_step3
    go_wp2_with ((with_reducible refine H0.out.mono ?_); rintro e w' ⟨rfl, rfl⟩)
    (try rw [Exit.noGoto_ret])
    go_ret
    exact res_none hS
end Go.Proofs.YtpgoemlnjocmhaaDoor.Lex
