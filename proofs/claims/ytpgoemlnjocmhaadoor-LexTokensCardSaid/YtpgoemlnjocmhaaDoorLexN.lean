/-
  A part of the proof of LexTokens (whatever the input, the law returns true and the input reads as it did): the reference: texts. Conditions stand at each theorem.
-/
import Derived.Test.YtpgoemlnjocmhaaDoorLexM
namespace Go.Proofs.YtpgoemlnjocmhaaDoor.Lex
open Go.RowKit Go.Proofs.YtpgoemlnjocmhaaDoorW.PrintWords
set_option linter.unusedVariables false
set_option linter.unusedSimpArgs false

def backOf (c : Int) : Int × Bool := if c = 116 then (9, true) else if c = 110 then (10, true) else if c = 114 then (13, true) else if c = 34 then (c, true) else if c = 92 then (c, true) else (0, false)
set_option maxHeartbeats 800000 in
theorem rback_any (c : Int) (w : World) : Calls Tryd.prog 84 #[.int .u8 c] w fun e w' => e = .returned (.tuple #[.int .u8 (backOf c).1, .bool (backOf c).2]) ∧ w = w' := by
  by_cases e1 : c = 116
  · subst e1; go_enter Tryd.func84, Tryd.ntmps84; go_wp2; go_ret2; exact ⟨rfl, rfl⟩
  by_cases e2 : c = 110
  · subst e2; go_enter Tryd.func84, Tryd.ntmps84; go_wp2; go_ret2; exact ⟨rfl, rfl⟩
  by_cases e3 : c = 114
  · subst e3; go_enter Tryd.func84, Tryd.ntmps84; go_wp2; go_ret2; exact ⟨rfl, rfl⟩
  by_cases e4 : c = 34
  · subst e4; go_enter Tryd.func84, Tryd.ntmps84; go_wp2; go_ret2; exact ⟨rfl, rfl⟩
  by_cases e5 : c = 92
  · subst e5; go_enter Tryd.func84, Tryd.ntmps84; go_wp2; go_ret2; exact ⟨rfl, rfl⟩
  have b1 : (c == 116) = false := by simpa using e1
  have b2 : (c == 110) = false := by simpa using e2
  have b3 : (c == 114) = false := by simpa using e3
  have b4 : (c == 34) = false := by simpa using e4
  have b5 : (c == 92) = false := by simpa using e5
  have hz : Hid (backOf c = (0, false)) := Lib.hid (by simp [backOf, *])
  clear e1 e2 e3 e4 e5
  go_enter Tryd.func84, Tryd.ntmps84; go_wp2; go_ret2; exact ⟨by rw [hz.out]; rfl, rfl⟩
theorem backOf_esc (c : Int) (h : c ≠ 39) : backOf c = (escB c, decide (escB c ≠ 0)) := by
  unfold backOf escB
  by_cases e1 : c = 116
  · subst e1; rfl
  by_cases e2 : c = 110
  · subst e2; rfl
  by_cases e3 : c = 114
  · subst e3; rfl
  by_cases e4 : c = 34
  · subst e4; rfl
  by_cases e5 : c = 92
  · subst e5; rfl
  simp [e1, e2, e3, e4, e5, h]

def textV (o : Option (List Int × Nat)) : Value :=
  match o with
  | some r => .tuple #[.string (strOfNums r.1), .int .i64 r.2]
  | none => .tuple #[.string ⟨#[]⟩, .int .i64 0]
set_option maxHeartbeats 8000000 in
set_option maxRecDepth 100000 in
theorem rtext_any (s : ByteArray) (i : Nat) (w : World) (hs : s.size ≤ 140737488351232) (hi : i < s.size) (hq : bt s i = 34 ∨ bt s i = 39) :
    Calls Tryd.prog 59 #[.string s, .int .i64 i] w fun e w' => e = .returned (textV (textF s (bt s i) (s.size + 1) (i + 1) [])) ∧ Below w.heap.size w w' := by
  obtain ⟨i0, hi0, hz0, hz1, hz2⟩ := info_parts info_u8
  have hxi : ∀ h : i < s.size, ((s[i]'h).toNat : Int) = bt s i := fun h => by simp [bt, h]
  generalize bt s i = q at *
  have HQ := Lib.hid hq
  clear hq
  go_enter Tryd.func59, Tryd.ntmps59
  go_wp2
  go_loopw [6, 7] (fun v6 v7 wr => ∃ (k : Nat) (acc : List Int) (kf : Nat), v7 = .int .i64 k ∧ i + 1 ≤ k ∧ k ≤ s.size ∧ acc.length ≤ k ∧ Hid (wr.ownsRow w.heap.size 5 1 v6 acc.length (nums .u8 acc)) ∧ Hid (Below w.heap.size w wr) ∧ Hid (textF s q (s.size + 1) (i + 1) [] = textF s q kf k acc ∧ s.size < kf + k)) (fun _ v7 _ => s.size + 2 - (intOf v7).toNat)
  case atStart => exact ⟨i + 1, [], s.size + 1, by go_num, by omega, by omega, by simp, Lib.hid (own_nil _ _ _ _), Lib.hid (Below.refl _ _), Lib.hid ⟨rfl, by omega⟩⟩
  case round =>
    obtain ⟨k, acc, kf, rfl, hk1, hk2, hal, HV, HBr, HF⟩ := hrel
    by_cases hlt : k < s.size
    · obtain ⟨kf, rfl⟩ : ∃ m, kf = m + 1 := ⟨kf - 1, by have := HF.out.2; omega⟩
      have hstep : textF s q (kf + 1) k acc = if bt s k = q then some (acc, k + 1) else if bt s k = 10 then none else if bt s k = 92 then (if escB (bt s (k + 1 : Nat)) = 0 then none else textF s q kf (k + 2) (acc ++ [escB (bt s (k + 1 : Nat))])) else textF s q kf (k + 1) (acc ++ [bt s k]) := by rw [textF, if_pos hlt]
      have hx : ∀ h : k < s.size, ((s[k]'h).toNat : Int) = bt s k := fun h => by simp [bt, h]
      have hbr := bt_range s k
      have hb1 := hbr.1
      have hb2 := hbr.2
      clear hbr
      by_cases e1 : bt s k = q
      · rw [if_pos e1] at hstep
        have hcv := fun nq => own_string (P := Tryd.prog) Tryd.underlying73 Tryd.underlying5 Tryd.underlying9 (show (wr.drewN nq).ownsRow w.heap.size 5 1 u6 acc.length (nums .u8 acc) from HV.out)
        have HZ := Lib.hid (show (textF s q (s.size + 1) (i + 1) []) = some (acc, k + 1) by rw [HF.out.1, hstep])
        have b1 : (bt s k != q) = false := by rw [e1]; simp
        clear hstep e1
        go_wp2
        go_quiet (fail)
        go_wp2
        go_ret2
        rw [HZ.out]
        exact ⟨rfl, bel_drewN HBr.out _⟩
      rw [if_neg e1] at hstep
      have b1 : (bt s k != q) = true := bne_iff_ne.2 e1
      by_cases e2 : bt s k = 10
      · rw [if_pos e2] at hstep
        have HZ := Lib.hid (show (textF s q (s.size + 1) (i + 1) []) = none by rw [HF.out.1, hstep])
        have b2 : (bt s k == 10) = true := by simpa using e2
        clear hstep e1 e2
        go_wp2
        go_quiet (fail)
        go_wp2
        go_ret2
        rw [HZ.out]
        exact ⟨rfl, bel_drewN HBr.out _⟩
      rw [if_neg e2] at hstep
      have b2 : (bt s k == 10) = false := by simpa using e2
      by_cases e3 : bt s k = 92
      · rw [if_pos e3] at hstep
        have b3 : (bt s k == 92) = true := by simpa using e3
        by_cases hlt2 : k + 1 < s.size
        · have ec : ((k + 1 : Nat) : Int) = (k : Int) + 1 := by omega
          rw [ec] at hstep
          have hx1 : ∀ h : k + 1 < s.size, ((s[k + 1]'h).toNat : Int) = bt s ((k : Int) + 1) := fun h => by rw [← ec]; simp only [bt, Int.toNat_natCast, h, dite_true]
          have hr2 := bt_range s ((k : Int) + 1)
          have her := escB_range _ hr2.1 hr2.2
          have hbk := fun W => rback_any (bt s ((k : Int) + 1)) W
          generalize bt s ((k : Int) + 1) = d at *
          clear ec e1 e2 e3
          by_cases e39 : d = 39
          · subst e39
            rw [if_neg (by decide), show escB 39 = 39 from rfl] at hstep
            rw [show backOf 39 = (0, false) from rfl] at hbk
            have HE := Lib.hid hbk
            have HST := Lib.hid hstep
            clear hbk hstep her hr2
            go_wp2
            go_quiet (fail)
            rename_i nq
            go_wp2_with (first | ((with_reducible refine (HE.out _).mono ?_); rintro e w' ⟨rfl, rfl⟩) | (at_builtin; refine wpList_append_own _ rfl _ _ 73 rfl w.heap.size 5 i0 (.int .u8 0) 1 1 Tryd.underlying73 hi0 hz0 hz1 hz2 rfl (by decide) _ _ _ rfl ((show (wr.drewN nq).ownsRow w.heap.size 5 1 u6 acc.length (nums .u8 acc) from HV.out).alloc _) ⟨wr.heap.size, 0, none⟩ 1 1 [.int .u8 (39)] rfl rfl ?c1 ?c2 ?c3 ?c4 ?c5 ?_))
            case c1 =>
              intro j u hj
              match j, hj with
              | 0, hj => simp at hj; subst hj; exact (blk_cell (heap_alloc_new (wr.drewN nq) (.cells #[.int .u8 (39)] 5 (0, 0))) 0).trans rfl
            case c2 => intro u hu; simp at hu; subst hu; rfl
            case c3 => unfold maxLen; omega
            case c4 => omega
            case c5 => have := HBr.out.size; simp; omega
            intro v' w1 hown' hgrow _
            have HO := Lib.hid hown'
            have HBw := Lib.hid (((bel_drewN HBr.out nq).alloc (by have := HBr.out.size; simpa using this) (.cells #[.int .u8 (39)] 5 (0, 0))).grown hgrow (by have := HBr.out.size; simp; omega) (fun k hk => own_base HV.out k hk))
            clear hown' hgrow
            go_wp2
            go_roundw
            case rel => exact ⟨k + 2, acc ++ [39], kf, by go_num, by omega, by omega, by simp; omega, Lib.hid (by have := HO.out; simpa [nums_append, nums] using this), HBw, Lib.hid ⟨by rw [HF.out.1, HST.out], by have := HF.out.2; omega⟩⟩
            case measure => simp [intOf]; omega
          · rw [backOf_esc d e39] at hbk
            have b39 : (d == 39) = false := by simpa using e39
            generalize escB d = ed at *
            by_cases e4 : ed = 0
            · rw [if_pos e4] at hstep
              have HZ := Lib.hid (show (textF s q (s.size + 1) (i + 1) []) = none by rw [HF.out.1, hstep])
              subst e4
              have HE := Lib.hid (show ∀ W, Calls Tryd.prog 84 #[.int .u8 d] W fun e w' => e = .returned (.tuple #[.int .u8 0, .bool false]) ∧ W = w' from hbk)
              clear hstep hbk e39
              go_wp2
              go_quiet (fail)
              go_wp2_with ((with_reducible refine (HE.out _).mono ?_); rintro e w' ⟨rfl, rfl⟩)
              go_ret2
              rw [HZ.out]
              exact ⟨rfl, bel_drewN HBr.out _⟩
            · rw [if_neg e4] at hstep
              have HE := Lib.hid (show ∀ W, Calls Tryd.prog 84 #[.int .u8 d] W fun e w' => e = .returned (.tuple #[.int .u8 ed, .bool true]) ∧ W = w' by simpa [e4] using hbk)
              have he1 := her.1
              have he2 := her.2
              have HST := Lib.hid hstep
              clear hbk hstep her hr2 e39 e4
              go_wp2
              go_quiet (fail)
              rename_i nq
              go_wp2_with (first | ((with_reducible refine (HE.out _).mono ?_); rintro e w' ⟨rfl, rfl⟩) | (at_builtin; refine wpList_append_own _ rfl _ _ 73 rfl w.heap.size 5 i0 (.int .u8 0) 1 1 Tryd.underlying73 hi0 hz0 hz1 hz2 rfl (by decide) _ _ _ rfl ((show (wr.drewN nq).ownsRow w.heap.size 5 1 u6 acc.length (nums .u8 acc) from HV.out).alloc _) ⟨wr.heap.size, 0, none⟩ 1 1 [.int .u8 (ed)] rfl rfl ?c1 ?c2 ?c3 ?c4 ?c5 ?_))
              case c1 =>
                intro j u hj
                match j, hj with
                | 0, hj => simp at hj; subst hj; exact (blk_cell (heap_alloc_new (wr.drewN nq) (.cells #[.int .u8 (ed)] 5 (0, 0))) 0).trans rfl
              case c2 => intro u hu; simp at hu; subst hu; rfl
              case c3 => unfold maxLen; omega
              case c4 => omega
              case c5 => have := HBr.out.size; simp; omega
              intro v' w1 hown' hgrow _
              have HO := Lib.hid hown'
              have HBw := Lib.hid (((bel_drewN HBr.out nq).alloc (by have := HBr.out.size; simpa using this) (.cells #[.int .u8 (ed)] 5 (0, 0))).grown hgrow (by have := HBr.out.size; simp; omega) (fun k hk => own_base HV.out k hk))
              clear hown' hgrow
              go_wp2
              go_roundw
              case rel => exact ⟨k + 2, acc ++ [ed], kf, by go_num, by omega, by omega, by simp; omega, Lib.hid (by have := HO.out; simpa [nums_append, nums] using this), HBw, Lib.hid ⟨by rw [HF.out.1, HST.out], by have := HF.out.2; omega⟩⟩
              case measure => simp [intOf]; omega
        · have hz : escB (bt s (k + 1 : Nat)) = 0 := by unfold bt; rw [dif_neg (by omega)]; rfl
          rw [if_pos hz] at hstep
          have HZ := Lib.hid (show (textF s q (s.size + 1) (i + 1) []) = none by rw [HF.out.1, hstep])
          clear hstep e1 e2 e3 hz
          go_wp2
          go_quiet (fail)
          go_wp2
          go_ret2
          rw [HZ.out]
          exact ⟨rfl, bel_drewN HBr.out _⟩
      rw [if_neg e3] at hstep
      have b3 : (bt s k == 92) = false := by simpa using e3
      have HST := Lib.hid hstep
      clear e1 e2 e3 hstep
      go_wp2
      go_quiet (fail)
      rename_i nq
      go_wp2_with ((at_builtin; refine wpList_append_own _ rfl _ _ 73 rfl w.heap.size 5 i0 (.int .u8 0) 1 1 Tryd.underlying73 hi0 hz0 hz1 hz2 rfl (by decide) _ _ _ rfl ((show (wr.drewN nq).ownsRow w.heap.size 5 1 u6 acc.length (nums .u8 acc) from HV.out).alloc _) ⟨wr.heap.size, 0, none⟩ 1 1 [.int .u8 (bt s k)] rfl rfl ?c1 ?c2 ?c3 ?c4 ?c5 ?_))
      case c1 =>
        intro j u hj
        match j, hj with
        | 0, hj => simp at hj; subst hj; exact (blk_cell (heap_alloc_new (wr.drewN nq) (.cells #[.int .u8 (bt s k)] 5 (0, 0))) 0).trans rfl
      case c2 => intro u hu; simp at hu; subst hu; rfl
      case c3 => unfold maxLen; omega
      case c4 => omega
      case c5 => have := HBr.out.size; simp; omega
      intro v' w1 hown' hgrow _
      have HO := Lib.hid hown'
      have HBw := Lib.hid (((bel_drewN HBr.out nq).alloc (by have := HBr.out.size; simpa using this) (.cells #[.int .u8 (bt s k)] 5 (0, 0))).grown hgrow (by have := HBr.out.size; simp; omega) (fun k hk => own_base HV.out k hk))
      clear hown' hgrow
      go_wp2
      go_roundw
      case rel => exact ⟨k + 1, acc ++ [bt s k], kf, by go_num, by omega, by omega, by simp; omega, Lib.hid (by have := HO.out; simpa [nums_append, nums] using this), HBw, Lib.hid ⟨by rw [HF.out.1, HST.out], by have := HF.out.2; omega⟩⟩
      case measure => simp [intOf]; omega
    · have hz : textF s q kf k acc = none := by cases kf <;> simp [textF, hlt]
      have HZ := Lib.hid (show (textF s q (s.size + 1) (i + 1) []) = none by rw [HF.out.1, hz])
      clear hz
      go_wp2
      go_quiet (fail)
      go_wp2
      go_ret2
      rw [HZ.out]
      exact ⟨rfl, bel_drewN HBr.out _⟩
end Go.Proofs.YtpgoemlnjocmhaaDoor.Lex
