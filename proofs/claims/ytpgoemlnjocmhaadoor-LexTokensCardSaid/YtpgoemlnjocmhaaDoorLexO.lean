/-
  A part of the proof of LexTokens (whatever the input, the law returns true and the input reads as it did): the reference: one. Conditions stand at each theorem.
-/
import Derived.Test.YtpgoemlnjocmhaaDoorLexOa
import Derived.Deep.DeepCutAuto
import Derived.Deep.CutBlock
namespace Go.Proofs.YtpgoemlnjocmhaaDoor.Lex
open Go.RowKit Go.Proofs.YtpgoemlnjocmhaaDoorW.PrintWords
set_option linter.unusedVariables false
set_option linter.unusedSimpArgs false/-- What one answers. -/
def OnePost (r : Option (Int × ByteArray × Nat)) (w : World) (e : Ending) (w' : World) : Prop :=
  match r with
  | some (k, t, n) => e = .returned (.tuple #[.agg #[.int .i64 k, .string t], .int .i64 n]) ∧ Below w.heap.size w w'
  | none => ∃ (k : Int) (t : ByteArray), e = .returned (.tuple #[.agg #[.int .i64 k, .string t], .int .i64 0]) ∧ Below w.heap.size w w'

set_option maxHeartbeats 16000000 in
set_option maxRecDepth 100000 in
theorem rone_any (s : ByteArray) (i : Nat) (w : World) (hs : s.size ≤ 140737488351232) (hi : i < s.size) :
    Calls Tryd.prog 30 #[.string s, .int .i64 i] w (OnePost (tokR s i) w) := by
  have hx : ∀ h : i < s.size, ((s[i]'h).toNat : Int) = bt s i := fun h => by simp [bt, h]
  have hx1 : ∀ h : i + 1 < s.size, ((s[i + 1]'h).toNat : Int) = bt s (i + 1 : Nat) := fun h => by simp [bt, h]
  have hx2 : Hid (¬ i + 1 < s.size → bt s (i + 1 : Nat) = 0) := Lib.hid (fun h => by unfold bt; rw [dif_neg (by omega)])
  have hbr := bt_range s i
  have hb1 := hbr.1
  have hb2 := hbr.2
  have hbr1 := bt_range s (i + 1 : Nat)
  have hc1 := hbr1.1
  have hc2 := hbr1.2
  clear hbr hbr1
  have HP := Lib.hid (show tokR s i = (if 0 < iriR s i then some (1, s.extract (i + 1) (iriR s i - 1), iriR s i) else tokR2 s i) from rfl)
  generalize hc : bt s i = c at *
  generalize hd : bt s (i + 1 : Nat) = d at *
  have HC := Lib.hid hc
  have HD := Lib.hid hd
  clear hc hd
  go_enter Tryd.func30, Tryd.ntmps30
  go_upto_if 24 with (fail)
  go_cut [7] (fun v7 wc => v7 = .int .u8 d ∧ wc = w.alloc (.cells #[.int .i64 0, .string ⟨#[]⟩] 48 (0, 0)))
  case first =>
    by_cases h1 : i + 1 < s.size
    · go_wp2
      go_meet
      exact ⟨rfl, rfl⟩
    · have hz := hx2.out h1
      subst hz
      go_wp2
      go_meet
      exact ⟨rfl, rfl⟩
  case rest =>
    obtain ⟨rfl, rfl⟩ := hcut
    have HI := Lib.hid (fun W => riri_any s i W hs hi)
    have HB := Lib.hid ((Below.refl w.heap.size w).alloc (Nat.le_refl _) (.cells #[.int .i64 0, .string ⟨#[]⟩] 48 (0, 0)))
    have hil : iriR s i ≤ s.size := by
      unfold iriR
      split
      · rename_i h
        have := bt_lt h.2 (by omega)
        omega
      · omega
    have hig : 0 < iriR s i → i + 2 ≤ iriR s i := by
      unfold iriR
      split <;> omega
    by_cases c60 : c = 60
    · subst c60
      by_cases h0 : 0 < iriR s i
      · have HZ := Lib.hid (show tokR s i = some (1, s.extract (i + 1) (iriR s i - 1), iriR s i) by rw [HP.out, if_pos h0])
        have hig2 := hig h0
        clear HP hig
        generalize iriR s i = n0 at *
        obtain ⟨m, rfl⟩ : ∃ m, n0 = m + 1 := ⟨n0 - 1, by omega⟩
        have HI2 := Lib.hid (show ∀ W, Calls Tryd.prog 56 #[.string s, .int .i64 i] W fun e w' => e = .returned (.int .i64 ((m : Int) + 1)) ∧ W = w' from fun W => by have := HI.out W; simpa using this)
        have q5 : i + 1 ≤ m := by omega
        have q6 : m ≤ s.size := by omega
        clear HI hil h0 hig2
        go_wp2_with ((with_reducible refine (HI2.out _).mono ?_); rintro e w' ⟨rfl, rfl⟩)
        have w1 : IntKind.i64.wrap ((m : Int) + 1 - 1) = (m : Int) := by rw [show (m : Int) + 1 - 1 = m by omega]; exact IntWalk.i64_in _ (by omega)
        have w1' : IntKind.i64.wrap (m : Int) = (m : Int) := IntWalk.i64_in _ (by omega)
        have w2 : IntKind.i64.wrap ((i : Int) + 1) = (i : Int) + 1 := IntWalk.i64_in _ (by omega)
        have w3 : 0 ≤ (i : Int) + 1 := by omega
        have w4 : ((i : Int) + 1).toNat = i + 1 := by omega
        have w5 : (i : Int) + 1 ≤ m := by omega
        have w6 : (m : Int) ≤ s.size := by omega
        go_region_with (((with_reducible refine (HI2.out _).mono ?_); rintro e w' ⟨rfl, rfl⟩))
        all_goals
          go_wp2
          refine bodyPost_ret (v := .tuple #[.agg #[.int .i64 1, .string (s.extract (i + 1) m)], .int .i64 ((m : Int) + 1)]) (by simp [results, Tryd.results30, go_sem]) rfl ?_
          rw [HZ.out]
          exact ⟨by first | rfl | (simp; done), (by repeat (first | exact HB.out | apply Below.drew | apply bel_drewN | refine Below.setCell ?_ (Nat.le_refl _) _ | refine Below.alloc ?_ (Nat.le_refl _) _ | exact Below.refl _ _))⟩
      · have hz : iriR s i = 0 := by omega
        rw [if_neg h0] at HP
        have HI0 := Lib.hid (show ∀ W, Calls Tryd.prog 56 #[.string s, .int .i64 i] W fun e w' => e = .returned (.int .i64 0) ∧ W = w' from fun W => by have := HI.out W; rw [hz] at this; exact this)
        clear HI
        clear hig hil h0
        have HDg := Lib.hid (fun W => calls_as (rdigit_any 60 W) (b' := false) (by decide))
        have HLt := Lib.hid (fun W => calls_as (rletter_any 60 W) (b' := false) (by decide))
        have HS := Lib.hid (show tokR s i = tokS s i by rw [HP.out]; unfold tokR2 tokS; rw [HC.out]; simp [digitB, letterB])
        have HG := Lib.hid (fun W => rsgn_any (s.extract i s.size) W (by simp; omega) (by simp; omega))
        have hsl := signR_le s i hi
        have HD := Lib.hid (show tokS s i = if signR (s.extract i s.size) = 0 then none else some (9, s.extract i (i + signR (s.extract i s.size)), i + signR (s.extract i s.size)) from rfl)
        generalize signR (s.extract i s.size) = gg at *
        by_cases hg : gg = 0
        · have HZ := Lib.hid (show tokR s i = none by rw [HS.out, HD.out, if_pos hg])
          have HG0 := Lib.hid (show ∀ W, Calls Tryd.prog 64 #[.string (s.extract i s.size)] W fun e w' => e = .returned (.int .i64 0) ∧ Below W.heap.size W w' from fun W => by have := HG.out W; rw [hg] at this; exact this)
          clear HS HD HG hg
          go_wp2_with (first | ((with_reducible refine (HI0.out _).mono ?_); rintro e w' ⟨rfl, rfl⟩) | ((with_reducible refine (HDg.out _).mono ?_); rintro e w' ⟨rfl, rfl⟩) | ((with_reducible refine (HLt.out _).mono ?_); rintro e w' ⟨rfl, rfl⟩) | ((with_reducible refine (HG0.out _).mono ?_); rintro e w2 ⟨rfl, hb2⟩; have q0 : w2.cell? ⟨w.heap.size, 0, none⟩ = some (.int .i64 0) := (hb2.cell (p := ⟨w.heap.size, 0, none⟩) (by simp)).trans (by simp); have q1 : w2.cell? ⟨w.heap.size, 1, none⟩ = some (.string ⟨#[]⟩) := (hb2.cell (p := ⟨w.heap.size, 1, none⟩) (by simp)).trans (by simp); have f0 : w2.frozen? ⟨w.heap.size, 0, none⟩ = false := (hb2.frozen (p := ⟨w.heap.size, 0, none⟩) (by simp)).trans (by simp); have f1 : w2.frozen? ⟨w.heap.size, 1, none⟩ = false := (hb2.frozen (p := ⟨w.heap.size, 1, none⟩) (by simp)).trans (by simp); have hz2 : w.heap.size < w2.heap.size := by (have h9 := hb2.size; simp at h9; omega)))
          refine bodyPost_ret (v := .tuple #[.agg #[.int .i64 0, .string (⟨#[]⟩)], .int .i64 0]) (by simp [results, Tryd.results30, go_sem, q0, q1, hz2]) rfl ?_
          rw [HZ.out]
          exact ⟨_, _, rfl, (by repeat (first | exact HB.out | exact HB.out.trans (hb2.mono (by simp)) | apply Below.drew | apply bel_drewN | refine Below.setCell (p := ⟨w.heap.size, 0, none⟩) ?_ (Nat.le_refl _) _ | refine Below.setCell (p := ⟨w.heap.size, 1, none⟩) ?_ (Nat.le_refl _) _ | refine Below.alloc ?_ (Nat.le_refl _) _ | exact Below.refl _ _))⟩
        · have HZ := Lib.hid (show tokR s i = some (9, s.extract i (i + gg), i + gg) by rw [HS.out, HD.out, if_neg hg])
          have hgb : ((gg : Int) == 0) = false := beq_eq_false_iff_ne.2 (by omega)
          clear HS HD hg
          go_wp2_with (first | ((with_reducible refine (HI0.out _).mono ?_); rintro e w' ⟨rfl, rfl⟩) | ((with_reducible refine (HDg.out _).mono ?_); rintro e w' ⟨rfl, rfl⟩) | ((with_reducible refine (HLt.out _).mono ?_); rintro e w' ⟨rfl, rfl⟩) | ((with_reducible refine (HG.out _).mono ?_); rintro e w2 ⟨rfl, hb2⟩; have q0 : w2.cell? ⟨w.heap.size, 0, none⟩ = some (.int .i64 0) := (hb2.cell (p := ⟨w.heap.size, 0, none⟩) (by simp)).trans (by simp); have q1 : w2.cell? ⟨w.heap.size, 1, none⟩ = some (.string ⟨#[]⟩) := (hb2.cell (p := ⟨w.heap.size, 1, none⟩) (by simp)).trans (by simp); have f0 : w2.frozen? ⟨w.heap.size, 0, none⟩ = false := (hb2.frozen (p := ⟨w.heap.size, 0, none⟩) (by simp)).trans (by simp); have f1 : w2.frozen? ⟨w.heap.size, 1, none⟩ = false := (hb2.frozen (p := ⟨w.heap.size, 1, none⟩) (by simp)).trans (by simp); have hz2 : w.heap.size < w2.heap.size := by (have h9 := hb2.size; simp at h9; omega)))
          refine bodyPost_ret (v := .tuple #[.agg #[.int .i64 9, .string (s.extract i (i + gg))], .int .i64 ((i : Int) + gg)]) (by simp [results, Tryd.results30, go_sem, q0, q1, hz2]) rfl ?_
          rw [HZ.out]
          exact ⟨by first | rfl | (simp; done), (by repeat (first | exact HB.out | exact HB.out.trans (hb2.mono (by simp)) | apply Below.drew | apply bel_drewN | refine Below.setCell (p := ⟨w.heap.size, 0, none⟩) ?_ (Nat.le_refl _) _ | refine Below.setCell (p := ⟨w.heap.size, 1, none⟩) ?_ (Nat.le_refl _) _ | refine Below.alloc ?_ (Nat.le_refl _) _ | exact Below.refl _ _))⟩
    have h0 : iriR s i = 0 := by unfold iriR; rw [if_neg (fun h => c60 (HC.out.symm.trans h.1))]
    rw [if_neg (by omega)] at HP
    have HI0 := Lib.hid (show ∀ W, Calls Tryd.prog 56 #[.string s, .int .i64 i] W fun e w' => e = .returned (.int .i64 0) ∧ W = w' from fun W => by have := HI.out W; rw [h0] at this; exact this)
    clear HI
    have b60 : (c == 60) = false := beq_eq_false_iff_ne.2 c60
    clear hig hil h0
    by_cases c95 : c = 95
    · subst c95
      by_cases d58 : d = 58
      · subst d58
        have hl := bt_lt HD.out (by omega)
        have HW := Lib.hid (fun W => rwords_any s (i + 2) false false W hs (by omega))
        have hw2 := cnt_le (wordsB false false) s (i + 2)
        by_cases hn : 0 < cnt (wordsB false false) s (i + 2)
        · have HZ := Lib.hid (show tokR s i = some (3, s.extract (i + 2) (i + 2 + cnt (wordsB false false) s (i + 2)), i + 2 + cnt (wordsB false false) s (i + 2)) by rw [HP.out]; unfold tokR2; rw [HC.out, HD.out, if_pos ⟨rfl, rfl, hn⟩])
          generalize cnt (wordsB false false) s (i + 2) = n at *
          have HW2 := Lib.hid (show ∀ W, Calls Tryd.prog 57 #[.string s, .int .i64 ((i : Int) + 2), .bool false, .bool false] W fun e w' => e = .returned (.int .i64 ((i : Int) + 2 + n)) ∧ W = w' from fun W => by have := HW.out W; simpa using this)
          clear HW HP
          go_wp2_with (first | ((with_reducible refine (HI0.out _).mono ?_); rintro e w' ⟨rfl, rfl⟩) | ((with_reducible refine (HW2.out _).mono ?_); rintro e w' ⟨rfl, rfl⟩))
          refine bodyPost_ret (v := .tuple #[.agg #[.int .i64 3, .string (s.extract (i + 2) (i + 2 + n))], .int .i64 ((i : Int) + 2 + n)]) (by simp [results, Tryd.results30, go_sem]) rfl ?_
          rw [HZ.out]
          exact ⟨by first | rfl | (simp; done), (by repeat (first | exact HB.out | exact HB.out.trans (hb2.mono (by simp)) | apply Below.drew | apply bel_drewN | refine Below.setCell (p := ⟨w.heap.size, 0, none⟩) ?_ (Nat.le_refl _) _ | refine Below.setCell (p := ⟨w.heap.size, 1, none⟩) ?_ (Nat.le_refl _) _ | refine Below.alloc ?_ (Nat.le_refl _) _ | exact Below.refl _ _))⟩
        · have hn0 : cnt (wordsB false false) s (i + 2) = 0 := by omega
          have HW2 := Lib.hid (show ∀ W, Calls Tryd.prog 57 #[.string s, .int .i64 ((i : Int) + 2), .bool false, .bool false] W fun e w' => e = .returned (.int .i64 ((i : Int) + 2)) ∧ W = w' from fun W => by have := HW.out W; rw [hn0] at this; simpa using this)
          clear HW
          have HDg := Lib.hid (fun W => calls_as (rdigit_any 95 W) (b' := false) (by decide))
          have HLt := Lib.hid (fun W => calls_as (rletter_any 95 W) (b' := false) (by decide))
          have HS := Lib.hid (show tokR s i = tokS s i by rw [HP.out]; unfold tokR2 tokS; rw [HC.out, HD.out, hn0]; simp [digitB, letterB])
          have HG := Lib.hid (fun W => rsgn_any (s.extract i s.size) W (by simp; omega) (by simp; omega))
          have hsl := signR_le s i hi
          have HD := Lib.hid (show tokS s i = if signR (s.extract i s.size) = 0 then none else some (9, s.extract i (i + signR (s.extract i s.size)), i + signR (s.extract i s.size)) from rfl)
          generalize signR (s.extract i s.size) = gg at *
          by_cases hg : gg = 0
          · have HZ := Lib.hid (show tokR s i = none by rw [HS.out, HD.out, if_pos hg])
            have HG0 := Lib.hid (show ∀ W, Calls Tryd.prog 64 #[.string (s.extract i s.size)] W fun e w' => e = .returned (.int .i64 0) ∧ Below W.heap.size W w' from fun W => by have := HG.out W; rw [hg] at this; exact this)
            clear HS HD HG hg
            go_wp2_with (first | ((with_reducible refine (HI0.out _).mono ?_); rintro e w' ⟨rfl, rfl⟩) | ((with_reducible refine (HW2.out _).mono ?_); rintro e w' ⟨rfl, rfl⟩) | ((with_reducible refine (HDg.out _).mono ?_); rintro e w' ⟨rfl, rfl⟩) | ((with_reducible refine (HLt.out _).mono ?_); rintro e w' ⟨rfl, rfl⟩) | ((with_reducible refine (HG0.out _).mono ?_); rintro e w2 ⟨rfl, hb2⟩; have q0 : w2.cell? ⟨w.heap.size, 0, none⟩ = some (.int .i64 0) := (hb2.cell (p := ⟨w.heap.size, 0, none⟩) (by simp)).trans (by simp); have q1 : w2.cell? ⟨w.heap.size, 1, none⟩ = some (.string ⟨#[]⟩) := (hb2.cell (p := ⟨w.heap.size, 1, none⟩) (by simp)).trans (by simp); have f0 : w2.frozen? ⟨w.heap.size, 0, none⟩ = false := (hb2.frozen (p := ⟨w.heap.size, 0, none⟩) (by simp)).trans (by simp); have f1 : w2.frozen? ⟨w.heap.size, 1, none⟩ = false := (hb2.frozen (p := ⟨w.heap.size, 1, none⟩) (by simp)).trans (by simp); have hz2 : w.heap.size < w2.heap.size := by (have h9 := hb2.size; simp at h9; omega)))
            refine bodyPost_ret (v := .tuple #[.agg #[.int .i64 0, .string (⟨#[]⟩)], .int .i64 0]) (by simp [results, Tryd.results30, go_sem, q0, q1, hz2]) rfl ?_
            rw [HZ.out]
            exact ⟨_, _, rfl, (by repeat (first | exact HB.out | exact HB.out.trans (hb2.mono (by simp)) | apply Below.drew | apply bel_drewN | refine Below.setCell (p := ⟨w.heap.size, 0, none⟩) ?_ (Nat.le_refl _) _ | refine Below.setCell (p := ⟨w.heap.size, 1, none⟩) ?_ (Nat.le_refl _) _ | refine Below.alloc ?_ (Nat.le_refl _) _ | exact Below.refl _ _))⟩
          · have HZ := Lib.hid (show tokR s i = some (9, s.extract i (i + gg), i + gg) by rw [HS.out, HD.out, if_neg hg])
            have hgb : ((gg : Int) == 0) = false := beq_eq_false_iff_ne.2 (by omega)
            clear HS HD hg
            go_wp2_with (first | ((with_reducible refine (HI0.out _).mono ?_); rintro e w' ⟨rfl, rfl⟩) | ((with_reducible refine (HW2.out _).mono ?_); rintro e w' ⟨rfl, rfl⟩) | ((with_reducible refine (HDg.out _).mono ?_); rintro e w' ⟨rfl, rfl⟩) | ((with_reducible refine (HLt.out _).mono ?_); rintro e w' ⟨rfl, rfl⟩) | ((with_reducible refine (HG.out _).mono ?_); rintro e w2 ⟨rfl, hb2⟩; have q0 : w2.cell? ⟨w.heap.size, 0, none⟩ = some (.int .i64 0) := (hb2.cell (p := ⟨w.heap.size, 0, none⟩) (by simp)).trans (by simp); have q1 : w2.cell? ⟨w.heap.size, 1, none⟩ = some (.string ⟨#[]⟩) := (hb2.cell (p := ⟨w.heap.size, 1, none⟩) (by simp)).trans (by simp); have f0 : w2.frozen? ⟨w.heap.size, 0, none⟩ = false := (hb2.frozen (p := ⟨w.heap.size, 0, none⟩) (by simp)).trans (by simp); have f1 : w2.frozen? ⟨w.heap.size, 1, none⟩ = false := (hb2.frozen (p := ⟨w.heap.size, 1, none⟩) (by simp)).trans (by simp); have hz2 : w.heap.size < w2.heap.size := by (have h9 := hb2.size; simp at h9; omega)))
            refine bodyPost_ret (v := .tuple #[.agg #[.int .i64 9, .string (s.extract i (i + gg))], .int .i64 ((i : Int) + gg)]) (by simp [results, Tryd.results30, go_sem, q0, q1, hz2]) rfl ?_
            rw [HZ.out]
            exact ⟨by first | rfl | (simp; done), (by repeat (first | exact HB.out | exact HB.out.trans (hb2.mono (by simp)) | apply Below.drew | apply bel_drewN | refine Below.setCell (p := ⟨w.heap.size, 0, none⟩) ?_ (Nat.le_refl _) _ | refine Below.setCell (p := ⟨w.heap.size, 1, none⟩) ?_ (Nat.le_refl _) _ | refine Below.alloc ?_ (Nat.le_refl _) _ | exact Below.refl _ _))⟩
      · have bd : (d == 58) = false := beq_eq_false_iff_ne.2 d58
        have HDg := Lib.hid (fun W => calls_as (rdigit_any 95 W) (b' := false) (by decide))
        have HLt := Lib.hid (fun W => calls_as (rletter_any 95 W) (b' := false) (by decide))
        have HS := Lib.hid (show tokR s i = tokS s i by rw [HP.out]; unfold tokR2 tokS; rw [HC.out, HD.out]; simp [digitB, letterB, d58])
        have HG := Lib.hid (fun W => rsgn_any (s.extract i s.size) W (by simp; omega) (by simp; omega))
        have hsl := signR_le s i hi
        have HD := Lib.hid (show tokS s i = if signR (s.extract i s.size) = 0 then none else some (9, s.extract i (i + signR (s.extract i s.size)), i + signR (s.extract i s.size)) from rfl)
        generalize signR (s.extract i s.size) = gg at *
        by_cases hg : gg = 0
        · have HZ := Lib.hid (show tokR s i = none by rw [HS.out, HD.out, if_pos hg])
          have HG0 := Lib.hid (show ∀ W, Calls Tryd.prog 64 #[.string (s.extract i s.size)] W fun e w' => e = .returned (.int .i64 0) ∧ Below W.heap.size W w' from fun W => by have := HG.out W; rw [hg] at this; exact this)
          clear HS HD HG hg
          go_wp2_with (first | ((with_reducible refine (HI0.out _).mono ?_); rintro e w' ⟨rfl, rfl⟩) | ((with_reducible refine (HDg.out _).mono ?_); rintro e w' ⟨rfl, rfl⟩) | ((with_reducible refine (HLt.out _).mono ?_); rintro e w' ⟨rfl, rfl⟩) | ((with_reducible refine (HG0.out _).mono ?_); rintro e w2 ⟨rfl, hb2⟩; have q0 : w2.cell? ⟨w.heap.size, 0, none⟩ = some (.int .i64 0) := (hb2.cell (p := ⟨w.heap.size, 0, none⟩) (by simp)).trans (by simp); have q1 : w2.cell? ⟨w.heap.size, 1, none⟩ = some (.string ⟨#[]⟩) := (hb2.cell (p := ⟨w.heap.size, 1, none⟩) (by simp)).trans (by simp); have f0 : w2.frozen? ⟨w.heap.size, 0, none⟩ = false := (hb2.frozen (p := ⟨w.heap.size, 0, none⟩) (by simp)).trans (by simp); have f1 : w2.frozen? ⟨w.heap.size, 1, none⟩ = false := (hb2.frozen (p := ⟨w.heap.size, 1, none⟩) (by simp)).trans (by simp); have hz2 : w.heap.size < w2.heap.size := by (have h9 := hb2.size; simp at h9; omega)))
          refine bodyPost_ret (v := .tuple #[.agg #[.int .i64 0, .string (⟨#[]⟩)], .int .i64 0]) (by simp [results, Tryd.results30, go_sem, q0, q1, hz2]) rfl ?_
          rw [HZ.out]
          exact ⟨_, _, rfl, (by repeat (first | exact HB.out | exact HB.out.trans (hb2.mono (by simp)) | apply Below.drew | apply bel_drewN | refine Below.setCell (p := ⟨w.heap.size, 0, none⟩) ?_ (Nat.le_refl _) _ | refine Below.setCell (p := ⟨w.heap.size, 1, none⟩) ?_ (Nat.le_refl _) _ | refine Below.alloc ?_ (Nat.le_refl _) _ | exact Below.refl _ _))⟩
        · have HZ := Lib.hid (show tokR s i = some (9, s.extract i (i + gg), i + gg) by rw [HS.out, HD.out, if_neg hg])
          have hgb : ((gg : Int) == 0) = false := beq_eq_false_iff_ne.2 (by omega)
          clear HS HD hg
          go_wp2_with (first | ((with_reducible refine (HI0.out _).mono ?_); rintro e w' ⟨rfl, rfl⟩) | ((with_reducible refine (HDg.out _).mono ?_); rintro e w' ⟨rfl, rfl⟩) | ((with_reducible refine (HLt.out _).mono ?_); rintro e w' ⟨rfl, rfl⟩) | ((with_reducible refine (HG.out _).mono ?_); rintro e w2 ⟨rfl, hb2⟩; have q0 : w2.cell? ⟨w.heap.size, 0, none⟩ = some (.int .i64 0) := (hb2.cell (p := ⟨w.heap.size, 0, none⟩) (by simp)).trans (by simp); have q1 : w2.cell? ⟨w.heap.size, 1, none⟩ = some (.string ⟨#[]⟩) := (hb2.cell (p := ⟨w.heap.size, 1, none⟩) (by simp)).trans (by simp); have f0 : w2.frozen? ⟨w.heap.size, 0, none⟩ = false := (hb2.frozen (p := ⟨w.heap.size, 0, none⟩) (by simp)).trans (by simp); have f1 : w2.frozen? ⟨w.heap.size, 1, none⟩ = false := (hb2.frozen (p := ⟨w.heap.size, 1, none⟩) (by simp)).trans (by simp); have hz2 : w.heap.size < w2.heap.size := by (have h9 := hb2.size; simp at h9; omega)))
          refine bodyPost_ret (v := .tuple #[.agg #[.int .i64 9, .string (s.extract i (i + gg))], .int .i64 ((i : Int) + gg)]) (by simp [results, Tryd.results30, go_sem, q0, q1, hz2]) rfl ?_
          rw [HZ.out]
          exact ⟨by first | rfl | (simp; done), (by repeat (first | exact HB.out | exact HB.out.trans (hb2.mono (by simp)) | apply Below.drew | apply bel_drewN | refine Below.setCell (p := ⟨w.heap.size, 0, none⟩) ?_ (Nat.le_refl _) _ | refine Below.setCell (p := ⟨w.heap.size, 1, none⟩) ?_ (Nat.le_refl _) _ | refine Below.alloc ?_ (Nat.le_refl _) _ | exact Below.refl _ _))⟩
    have b95 : (c == 95) = false := beq_eq_false_iff_ne.2 c95
    by_cases c63 : c = 63
    · subst c63
      have hlet := fun W => rletter_any d W
      cases e1 : letterB d with
      | true =>
        have hl : i + 1 < s.size := bt_lt' (p := letterB) (i := i + 1) (by rw [HD.out]; exact e1) (by decide)
        have HW := Lib.hid (fun W => rwords_any s (i + 1) false false W hs (by omega))
        have hw2 := cnt_le (wordsB false false) s (i + 1)
        have HZ := Lib.hid (show tokR s i = some (4, s.extract (i + 1) (i + 1 + cnt (wordsB false false) s (i + 1)), i + 1 + cnt (wordsB false false) s (i + 1)) by rw [HP.out]; unfold tokR2; rw [HC.out, HD.out, if_neg (show ¬ ((63 : Int) = 95 ∧ d = 58 ∧ 0 < cnt (wordsB false false) s (i + 2)) from fun h => by have := h.1; omega), if_pos ⟨by decide, e1⟩])
        rw [e1] at hlet
        have HLd := Lib.hid hlet
        generalize cnt (wordsB false false) s (i + 1) = n at *
        have HW2 := Lib.hid (show ∀ W, Calls Tryd.prog 57 #[.string s, .int .i64 ((i : Int) + 1), .bool false, .bool false] W fun e w' => e = .returned (.int .i64 ((i : Int) + 1 + n)) ∧ W = w' from fun W => by have := HW.out W; simpa using this)
        clear HW HP e1 hlet
        go_wp2_with (first | ((with_reducible refine (HI0.out _).mono ?_); rintro e w' ⟨rfl, rfl⟩) | ((with_reducible refine (HLd.out _).mono ?_); rintro e w' ⟨rfl, rfl⟩) | ((with_reducible refine (HW2.out _).mono ?_); rintro e w' ⟨rfl, rfl⟩))
        refine bodyPost_ret (v := .tuple #[.agg #[.int .i64 4, .string (s.extract (i + 1) (i + 1 + n))], .int .i64 ((i : Int) + 1 + n)]) (by simp [results, Tryd.results30, go_sem]) rfl ?_
        rw [HZ.out]
        exact ⟨by first | rfl | (simp; done), (by repeat (first | exact HB.out | exact HB.out.trans (hb2.mono (by simp)) | apply Below.drew | apply bel_drewN | refine Below.setCell (p := ⟨w.heap.size, 0, none⟩) ?_ (Nat.le_refl _) _ | refine Below.setCell (p := ⟨w.heap.size, 1, none⟩) ?_ (Nat.le_refl _) _ | refine Below.alloc ?_ (Nat.le_refl _) _ | exact Below.refl _ _))⟩
      | false =>
        rw [e1] at hlet
        have HLd := Lib.hid hlet
        have HDg := Lib.hid (fun W => calls_as (rdigit_any 63 W) (b' := false) (by decide))
        have HLt := Lib.hid (fun W => calls_as (rletter_any 63 W) (b' := false) (by decide))
        have HS := Lib.hid (show tokR s i = tokS s i by rw [HP.out]; unfold tokR2 tokS; rw [HC.out, HD.out, e1]; simp [digitB, letterB])
        have HG := Lib.hid (fun W => rsgn_any (s.extract i s.size) W (by simp; omega) (by simp; omega))
        have hsl := signR_le s i hi
        have HD := Lib.hid (show tokS s i = if signR (s.extract i s.size) = 0 then none else some (9, s.extract i (i + signR (s.extract i s.size)), i + signR (s.extract i s.size)) from rfl)
        generalize signR (s.extract i s.size) = gg at *
        by_cases hg : gg = 0
        · have HZ := Lib.hid (show tokR s i = none by rw [HS.out, HD.out, if_pos hg])
          have HG0 := Lib.hid (show ∀ W, Calls Tryd.prog 64 #[.string (s.extract i s.size)] W fun e w' => e = .returned (.int .i64 0) ∧ Below W.heap.size W w' from fun W => by have := HG.out W; rw [hg] at this; exact this)
          clear HS HD HG hg
          go_wp2_with (first | ((with_reducible refine (HI0.out _).mono ?_); rintro e w' ⟨rfl, rfl⟩) | ((with_reducible refine (HLd.out _).mono ?_); rintro e w' ⟨rfl, rfl⟩) | ((with_reducible refine (HDg.out _).mono ?_); rintro e w' ⟨rfl, rfl⟩) | ((with_reducible refine (HLt.out _).mono ?_); rintro e w' ⟨rfl, rfl⟩) | ((with_reducible refine (HG0.out _).mono ?_); rintro e w2 ⟨rfl, hb2⟩; have q0 : w2.cell? ⟨w.heap.size, 0, none⟩ = some (.int .i64 0) := (hb2.cell (p := ⟨w.heap.size, 0, none⟩) (by simp)).trans (by simp); have q1 : w2.cell? ⟨w.heap.size, 1, none⟩ = some (.string ⟨#[]⟩) := (hb2.cell (p := ⟨w.heap.size, 1, none⟩) (by simp)).trans (by simp); have f0 : w2.frozen? ⟨w.heap.size, 0, none⟩ = false := (hb2.frozen (p := ⟨w.heap.size, 0, none⟩) (by simp)).trans (by simp); have f1 : w2.frozen? ⟨w.heap.size, 1, none⟩ = false := (hb2.frozen (p := ⟨w.heap.size, 1, none⟩) (by simp)).trans (by simp); have hz2 : w.heap.size < w2.heap.size := by (have h9 := hb2.size; simp at h9; omega)))
          refine bodyPost_ret (v := .tuple #[.agg #[.int .i64 0, .string (⟨#[]⟩)], .int .i64 0]) (by simp [results, Tryd.results30, go_sem, q0, q1, hz2]) rfl ?_
          rw [HZ.out]
          exact ⟨_, _, rfl, (by repeat (first | exact HB.out | exact HB.out.trans (hb2.mono (by simp)) | apply Below.drew | apply bel_drewN | refine Below.setCell (p := ⟨w.heap.size, 0, none⟩) ?_ (Nat.le_refl _) _ | refine Below.setCell (p := ⟨w.heap.size, 1, none⟩) ?_ (Nat.le_refl _) _ | refine Below.alloc ?_ (Nat.le_refl _) _ | exact Below.refl _ _))⟩
        · have HZ := Lib.hid (show tokR s i = some (9, s.extract i (i + gg), i + gg) by rw [HS.out, HD.out, if_neg hg])
          have hgb : ((gg : Int) == 0) = false := beq_eq_false_iff_ne.2 (by omega)
          clear HS HD hg
          go_wp2_with (first | ((with_reducible refine (HI0.out _).mono ?_); rintro e w' ⟨rfl, rfl⟩) | ((with_reducible refine (HLd.out _).mono ?_); rintro e w' ⟨rfl, rfl⟩) | ((with_reducible refine (HDg.out _).mono ?_); rintro e w' ⟨rfl, rfl⟩) | ((with_reducible refine (HLt.out _).mono ?_); rintro e w' ⟨rfl, rfl⟩) | ((with_reducible refine (HG.out _).mono ?_); rintro e w2 ⟨rfl, hb2⟩; have q0 : w2.cell? ⟨w.heap.size, 0, none⟩ = some (.int .i64 0) := (hb2.cell (p := ⟨w.heap.size, 0, none⟩) (by simp)).trans (by simp); have q1 : w2.cell? ⟨w.heap.size, 1, none⟩ = some (.string ⟨#[]⟩) := (hb2.cell (p := ⟨w.heap.size, 1, none⟩) (by simp)).trans (by simp); have f0 : w2.frozen? ⟨w.heap.size, 0, none⟩ = false := (hb2.frozen (p := ⟨w.heap.size, 0, none⟩) (by simp)).trans (by simp); have f1 : w2.frozen? ⟨w.heap.size, 1, none⟩ = false := (hb2.frozen (p := ⟨w.heap.size, 1, none⟩) (by simp)).trans (by simp); have hz2 : w.heap.size < w2.heap.size := by (have h9 := hb2.size; simp at h9; omega)))
          refine bodyPost_ret (v := .tuple #[.agg #[.int .i64 9, .string (s.extract i (i + gg))], .int .i64 ((i : Int) + gg)]) (by simp [results, Tryd.results30, go_sem, q0, q1, hz2]) rfl ?_
          rw [HZ.out]
          exact ⟨by first | rfl | (simp; done), (by repeat (first | exact HB.out | exact HB.out.trans (hb2.mono (by simp)) | apply Below.drew | apply bel_drewN | refine Below.setCell (p := ⟨w.heap.size, 0, none⟩) ?_ (Nat.le_refl _) _ | refine Below.setCell (p := ⟨w.heap.size, 1, none⟩) ?_ (Nat.le_refl _) _ | refine Below.alloc ?_ (Nat.le_refl _) _ | exact Below.refl _ _))⟩
    have b63 : (c == 63) = false := beq_eq_false_iff_ne.2 c63
    by_cases c36 : c = 36
    · subst c36
      have hlet := fun W => rletter_any d W
      cases e1 : letterB d with
      | true =>
        have hl : i + 1 < s.size := bt_lt' (p := letterB) (i := i + 1) (by rw [HD.out]; exact e1) (by decide)
        have HW := Lib.hid (fun W => rwords_any s (i + 1) false false W hs (by omega))
        have hw2 := cnt_le (wordsB false false) s (i + 1)
        have HZ := Lib.hid (show tokR s i = some (4, s.extract (i + 1) (i + 1 + cnt (wordsB false false) s (i + 1)), i + 1 + cnt (wordsB false false) s (i + 1)) by rw [HP.out]; unfold tokR2; rw [HC.out, HD.out, if_neg (show ¬ ((36 : Int) = 95 ∧ d = 58 ∧ 0 < cnt (wordsB false false) s (i + 2)) from fun h => by have := h.1; omega), if_pos ⟨by decide, e1⟩])
        rw [e1] at hlet
        have HLd := Lib.hid hlet
        generalize cnt (wordsB false false) s (i + 1) = n at *
        have HW2 := Lib.hid (show ∀ W, Calls Tryd.prog 57 #[.string s, .int .i64 ((i : Int) + 1), .bool false, .bool false] W fun e w' => e = .returned (.int .i64 ((i : Int) + 1 + n)) ∧ W = w' from fun W => by have := HW.out W; simpa using this)
        clear HW HP e1 hlet
        go_wp2_with (first | ((with_reducible refine (HI0.out _).mono ?_); rintro e w' ⟨rfl, rfl⟩) | ((with_reducible refine (HLd.out _).mono ?_); rintro e w' ⟨rfl, rfl⟩) | ((with_reducible refine (HW2.out _).mono ?_); rintro e w' ⟨rfl, rfl⟩))
        refine bodyPost_ret (v := .tuple #[.agg #[.int .i64 4, .string (s.extract (i + 1) (i + 1 + n))], .int .i64 ((i : Int) + 1 + n)]) (by simp [results, Tryd.results30, go_sem]) rfl ?_
        rw [HZ.out]
        exact ⟨by first | rfl | (simp; done), (by repeat (first | exact HB.out | exact HB.out.trans (hb2.mono (by simp)) | apply Below.drew | apply bel_drewN | refine Below.setCell (p := ⟨w.heap.size, 0, none⟩) ?_ (Nat.le_refl _) _ | refine Below.setCell (p := ⟨w.heap.size, 1, none⟩) ?_ (Nat.le_refl _) _ | refine Below.alloc ?_ (Nat.le_refl _) _ | exact Below.refl _ _))⟩
      | false =>
        rw [e1] at hlet
        have HLd := Lib.hid hlet
        have HDg := Lib.hid (fun W => calls_as (rdigit_any 36 W) (b' := false) (by decide))
        have HLt := Lib.hid (fun W => calls_as (rletter_any 36 W) (b' := false) (by decide))
        have HS := Lib.hid (show tokR s i = tokS s i by rw [HP.out]; unfold tokR2 tokS; rw [HC.out, HD.out, e1]; simp [digitB, letterB])
        have HG := Lib.hid (fun W => rsgn_any (s.extract i s.size) W (by simp; omega) (by simp; omega))
        have hsl := signR_le s i hi
        have HD := Lib.hid (show tokS s i = if signR (s.extract i s.size) = 0 then none else some (9, s.extract i (i + signR (s.extract i s.size)), i + signR (s.extract i s.size)) from rfl)
        generalize signR (s.extract i s.size) = gg at *
        by_cases hg : gg = 0
        · have HZ := Lib.hid (show tokR s i = none by rw [HS.out, HD.out, if_pos hg])
          have HG0 := Lib.hid (show ∀ W, Calls Tryd.prog 64 #[.string (s.extract i s.size)] W fun e w' => e = .returned (.int .i64 0) ∧ Below W.heap.size W w' from fun W => by have := HG.out W; rw [hg] at this; exact this)
          clear HS HD HG hg
          go_wp2_with (first | ((with_reducible refine (HI0.out _).mono ?_); rintro e w' ⟨rfl, rfl⟩) | ((with_reducible refine (HLd.out _).mono ?_); rintro e w' ⟨rfl, rfl⟩) | ((with_reducible refine (HDg.out _).mono ?_); rintro e w' ⟨rfl, rfl⟩) | ((with_reducible refine (HLt.out _).mono ?_); rintro e w' ⟨rfl, rfl⟩) | ((with_reducible refine (HG0.out _).mono ?_); rintro e w2 ⟨rfl, hb2⟩; have q0 : w2.cell? ⟨w.heap.size, 0, none⟩ = some (.int .i64 0) := (hb2.cell (p := ⟨w.heap.size, 0, none⟩) (by simp)).trans (by simp); have q1 : w2.cell? ⟨w.heap.size, 1, none⟩ = some (.string ⟨#[]⟩) := (hb2.cell (p := ⟨w.heap.size, 1, none⟩) (by simp)).trans (by simp); have f0 : w2.frozen? ⟨w.heap.size, 0, none⟩ = false := (hb2.frozen (p := ⟨w.heap.size, 0, none⟩) (by simp)).trans (by simp); have f1 : w2.frozen? ⟨w.heap.size, 1, none⟩ = false := (hb2.frozen (p := ⟨w.heap.size, 1, none⟩) (by simp)).trans (by simp); have hz2 : w.heap.size < w2.heap.size := by (have h9 := hb2.size; simp at h9; omega)))
          refine bodyPost_ret (v := .tuple #[.agg #[.int .i64 0, .string (⟨#[]⟩)], .int .i64 0]) (by simp [results, Tryd.results30, go_sem, q0, q1, hz2]) rfl ?_
          rw [HZ.out]
          exact ⟨_, _, rfl, (by repeat (first | exact HB.out | exact HB.out.trans (hb2.mono (by simp)) | apply Below.drew | apply bel_drewN | refine Below.setCell (p := ⟨w.heap.size, 0, none⟩) ?_ (Nat.le_refl _) _ | refine Below.setCell (p := ⟨w.heap.size, 1, none⟩) ?_ (Nat.le_refl _) _ | refine Below.alloc ?_ (Nat.le_refl _) _ | exact Below.refl _ _))⟩
        · have HZ := Lib.hid (show tokR s i = some (9, s.extract i (i + gg), i + gg) by rw [HS.out, HD.out, if_neg hg])
          have hgb : ((gg : Int) == 0) = false := beq_eq_false_iff_ne.2 (by omega)
          clear HS HD hg
          go_wp2_with (first | ((with_reducible refine (HI0.out _).mono ?_); rintro e w' ⟨rfl, rfl⟩) | ((with_reducible refine (HLd.out _).mono ?_); rintro e w' ⟨rfl, rfl⟩) | ((with_reducible refine (HDg.out _).mono ?_); rintro e w' ⟨rfl, rfl⟩) | ((with_reducible refine (HLt.out _).mono ?_); rintro e w' ⟨rfl, rfl⟩) | ((with_reducible refine (HG.out _).mono ?_); rintro e w2 ⟨rfl, hb2⟩; have q0 : w2.cell? ⟨w.heap.size, 0, none⟩ = some (.int .i64 0) := (hb2.cell (p := ⟨w.heap.size, 0, none⟩) (by simp)).trans (by simp); have q1 : w2.cell? ⟨w.heap.size, 1, none⟩ = some (.string ⟨#[]⟩) := (hb2.cell (p := ⟨w.heap.size, 1, none⟩) (by simp)).trans (by simp); have f0 : w2.frozen? ⟨w.heap.size, 0, none⟩ = false := (hb2.frozen (p := ⟨w.heap.size, 0, none⟩) (by simp)).trans (by simp); have f1 : w2.frozen? ⟨w.heap.size, 1, none⟩ = false := (hb2.frozen (p := ⟨w.heap.size, 1, none⟩) (by simp)).trans (by simp); have hz2 : w.heap.size < w2.heap.size := by (have h9 := hb2.size; simp at h9; omega)))
          refine bodyPost_ret (v := .tuple #[.agg #[.int .i64 9, .string (s.extract i (i + gg))], .int .i64 ((i : Int) + gg)]) (by simp [results, Tryd.results30, go_sem, q0, q1, hz2]) rfl ?_
          rw [HZ.out]
          exact ⟨by first | rfl | (simp; done), (by repeat (first | exact HB.out | exact HB.out.trans (hb2.mono (by simp)) | apply Below.drew | apply bel_drewN | refine Below.setCell (p := ⟨w.heap.size, 0, none⟩) ?_ (Nat.le_refl _) _ | refine Below.setCell (p := ⟨w.heap.size, 1, none⟩) ?_ (Nat.le_refl _) _ | refine Below.alloc ?_ (Nat.le_refl _) _ | exact Below.refl _ _))⟩
    have b36 : (c == 36) = false := beq_eq_false_iff_ne.2 c36
    by_cases c34 : c = 34
    · subst c34
      have hT := fun W => rtext_any s i W hs hi (by rw [HC.out]; decide)
      rw [HC.out] at hT
      have HZ1 := Lib.hid (show tokR s i = (textF s 34 (s.size + 1) (i + 1) []).map fun r => (5, strOfNums r.1, r.2) by rw [HP.out]; unfold tokR2; rw [HC.out, HD.out, if_neg (show ¬ ((34 : Int) = 95 ∧ d = 58 ∧ 0 < cnt (wordsB false false) s (i + 2)) from fun h => by have := h.1; omega), if_neg (show ¬ (((34 : Int) = 63 ∨ (34 : Int) = 36) ∧ letterB d = true) from fun h => by rcases h.1 with h | h <;> omega), if_pos (by decide)])
      cases e1 : textF s 34 (s.size + 1) (i + 1) [] with
      | some r =>
        rw [e1] at hT HZ1
        obtain ⟨acc, n⟩ := r
        have HZ := Lib.hid (show tokR s i = some (5, strOfNums acc, n) from HZ1.out)
        have HT := Lib.hid (show ∀ W, Calls Tryd.prog 59 #[.string s, .int .i64 i] W fun e w' => e = .returned (.tuple #[.string (strOfNums acc), .int .i64 n]) ∧ Below W.heap.size W w' from hT)
        clear HP e1 hT HZ1
        go_wp2_with (first | ((with_reducible refine (HI0.out _).mono ?_); rintro e w' ⟨rfl, rfl⟩) | ((with_reducible refine (HT.out _).mono ?_); rintro e w2 ⟨rfl, hb2⟩; have q0 : w2.cell? ⟨w.heap.size, 0, none⟩ = some (.int .i64 0) := (hb2.cell (p := ⟨w.heap.size, 0, none⟩) (by simp)).trans (by simp); have q1 : w2.cell? ⟨w.heap.size, 1, none⟩ = some (.string ⟨#[]⟩) := (hb2.cell (p := ⟨w.heap.size, 1, none⟩) (by simp)).trans (by simp); have f0 : w2.frozen? ⟨w.heap.size, 0, none⟩ = false := (hb2.frozen (p := ⟨w.heap.size, 0, none⟩) (by simp)).trans (by simp); have f1 : w2.frozen? ⟨w.heap.size, 1, none⟩ = false := (hb2.frozen (p := ⟨w.heap.size, 1, none⟩) (by simp)).trans (by simp); have hz2 : w.heap.size < w2.heap.size := by (have h9 := hb2.size; simp at h9; omega)))
        refine bodyPost_ret (v := .tuple #[.agg #[.int .i64 5, .string (strOfNums acc)], .int .i64 (n)]) (by simp [results, Tryd.results30, go_sem, q0, q1, hz2]) rfl ?_
        rw [HZ.out]
        exact ⟨by first | rfl | (simp; done), (by repeat (first | exact HB.out | exact HB.out.trans (hb2.mono (by simp)) | apply Below.drew | apply bel_drewN | refine Below.setCell (p := ⟨w.heap.size, 0, none⟩) ?_ (Nat.le_refl _) _ | refine Below.setCell (p := ⟨w.heap.size, 1, none⟩) ?_ (Nat.le_refl _) _ | refine Below.alloc ?_ (Nat.le_refl _) _ | exact Below.refl _ _))⟩
      | none =>
        rw [e1] at hT HZ1
        have HZ := Lib.hid (show tokR s i = none from HZ1.out)
        have HT := Lib.hid (show ∀ W, Calls Tryd.prog 59 #[.string s, .int .i64 i] W fun e w' => e = .returned (.tuple #[.string ⟨#[]⟩, .int .i64 0]) ∧ Below W.heap.size W w' from hT)
        clear HP e1 hT HZ1
        go_wp2_with (first | ((with_reducible refine (HI0.out _).mono ?_); rintro e w' ⟨rfl, rfl⟩) | ((with_reducible refine (HT.out _).mono ?_); rintro e w2 ⟨rfl, hb2⟩; have q0 : w2.cell? ⟨w.heap.size, 0, none⟩ = some (.int .i64 0) := (hb2.cell (p := ⟨w.heap.size, 0, none⟩) (by simp)).trans (by simp); have q1 : w2.cell? ⟨w.heap.size, 1, none⟩ = some (.string ⟨#[]⟩) := (hb2.cell (p := ⟨w.heap.size, 1, none⟩) (by simp)).trans (by simp); have f0 : w2.frozen? ⟨w.heap.size, 0, none⟩ = false := (hb2.frozen (p := ⟨w.heap.size, 0, none⟩) (by simp)).trans (by simp); have f1 : w2.frozen? ⟨w.heap.size, 1, none⟩ = false := (hb2.frozen (p := ⟨w.heap.size, 1, none⟩) (by simp)).trans (by simp); have hz2 : w.heap.size < w2.heap.size := by (have h9 := hb2.size; simp at h9; omega)))
        refine bodyPost_ret (v := .tuple #[.agg #[.int .i64 5, .string (⟨#[]⟩)], .int .i64 0]) (by simp [results, Tryd.results30, go_sem, q0, q1, hz2]) rfl ?_
        rw [HZ.out]
        exact ⟨_, _, rfl, (by repeat (first | exact HB.out | exact HB.out.trans (hb2.mono (by simp)) | apply Below.drew | apply bel_drewN | refine Below.setCell (p := ⟨w.heap.size, 0, none⟩) ?_ (Nat.le_refl _) _ | refine Below.setCell (p := ⟨w.heap.size, 1, none⟩) ?_ (Nat.le_refl _) _ | refine Below.alloc ?_ (Nat.le_refl _) _ | exact Below.refl _ _))⟩
    have b34 : (c == 34) = false := beq_eq_false_iff_ne.2 c34
    by_cases c39 : c = 39
    · subst c39
      have hT := fun W => rtext_any s i W hs hi (by rw [HC.out]; decide)
      rw [HC.out] at hT
      have HZ1 := Lib.hid (show tokR s i = (textF s 39 (s.size + 1) (i + 1) []).map fun r => (5, strOfNums r.1, r.2) by rw [HP.out]; unfold tokR2; rw [HC.out, HD.out, if_neg (show ¬ ((39 : Int) = 95 ∧ d = 58 ∧ 0 < cnt (wordsB false false) s (i + 2)) from fun h => by have := h.1; omega), if_neg (show ¬ (((39 : Int) = 63 ∨ (39 : Int) = 36) ∧ letterB d = true) from fun h => by rcases h.1 with h | h <;> omega), if_pos (by decide)])
      cases e1 : textF s 39 (s.size + 1) (i + 1) [] with
      | some r =>
        rw [e1] at hT HZ1
        obtain ⟨acc, n⟩ := r
        have HZ := Lib.hid (show tokR s i = some (5, strOfNums acc, n) from HZ1.out)
        have HT := Lib.hid (show ∀ W, Calls Tryd.prog 59 #[.string s, .int .i64 i] W fun e w' => e = .returned (.tuple #[.string (strOfNums acc), .int .i64 n]) ∧ Below W.heap.size W w' from hT)
        clear HP e1 hT HZ1
        go_wp2_with (first | ((with_reducible refine (HI0.out _).mono ?_); rintro e w' ⟨rfl, rfl⟩) | ((with_reducible refine (HT.out _).mono ?_); rintro e w2 ⟨rfl, hb2⟩; have q0 : w2.cell? ⟨w.heap.size, 0, none⟩ = some (.int .i64 0) := (hb2.cell (p := ⟨w.heap.size, 0, none⟩) (by simp)).trans (by simp); have q1 : w2.cell? ⟨w.heap.size, 1, none⟩ = some (.string ⟨#[]⟩) := (hb2.cell (p := ⟨w.heap.size, 1, none⟩) (by simp)).trans (by simp); have f0 : w2.frozen? ⟨w.heap.size, 0, none⟩ = false := (hb2.frozen (p := ⟨w.heap.size, 0, none⟩) (by simp)).trans (by simp); have f1 : w2.frozen? ⟨w.heap.size, 1, none⟩ = false := (hb2.frozen (p := ⟨w.heap.size, 1, none⟩) (by simp)).trans (by simp); have hz2 : w.heap.size < w2.heap.size := by (have h9 := hb2.size; simp at h9; omega)))
        refine bodyPost_ret (v := .tuple #[.agg #[.int .i64 5, .string (strOfNums acc)], .int .i64 (n)]) (by simp [results, Tryd.results30, go_sem, q0, q1, hz2]) rfl ?_
        rw [HZ.out]
        exact ⟨by first | rfl | (simp; done), (by repeat (first | exact HB.out | exact HB.out.trans (hb2.mono (by simp)) | apply Below.drew | apply bel_drewN | refine Below.setCell (p := ⟨w.heap.size, 0, none⟩) ?_ (Nat.le_refl _) _ | refine Below.setCell (p := ⟨w.heap.size, 1, none⟩) ?_ (Nat.le_refl _) _ | refine Below.alloc ?_ (Nat.le_refl _) _ | exact Below.refl _ _))⟩
      | none =>
        rw [e1] at hT HZ1
        have HZ := Lib.hid (show tokR s i = none from HZ1.out)
        have HT := Lib.hid (show ∀ W, Calls Tryd.prog 59 #[.string s, .int .i64 i] W fun e w' => e = .returned (.tuple #[.string ⟨#[]⟩, .int .i64 0]) ∧ Below W.heap.size W w' from hT)
        clear HP e1 hT HZ1
        go_wp2_with (first | ((with_reducible refine (HI0.out _).mono ?_); rintro e w' ⟨rfl, rfl⟩) | ((with_reducible refine (HT.out _).mono ?_); rintro e w2 ⟨rfl, hb2⟩; have q0 : w2.cell? ⟨w.heap.size, 0, none⟩ = some (.int .i64 0) := (hb2.cell (p := ⟨w.heap.size, 0, none⟩) (by simp)).trans (by simp); have q1 : w2.cell? ⟨w.heap.size, 1, none⟩ = some (.string ⟨#[]⟩) := (hb2.cell (p := ⟨w.heap.size, 1, none⟩) (by simp)).trans (by simp); have f0 : w2.frozen? ⟨w.heap.size, 0, none⟩ = false := (hb2.frozen (p := ⟨w.heap.size, 0, none⟩) (by simp)).trans (by simp); have f1 : w2.frozen? ⟨w.heap.size, 1, none⟩ = false := (hb2.frozen (p := ⟨w.heap.size, 1, none⟩) (by simp)).trans (by simp); have hz2 : w.heap.size < w2.heap.size := by (have h9 := hb2.size; simp at h9; omega)))
        refine bodyPost_ret (v := .tuple #[.agg #[.int .i64 5, .string (⟨#[]⟩)], .int .i64 0]) (by simp [results, Tryd.results30, go_sem, q0, q1, hz2]) rfl ?_
        rw [HZ.out]
        exact ⟨_, _, rfl, (by repeat (first | exact HB.out | exact HB.out.trans (hb2.mono (by simp)) | apply Below.drew | apply bel_drewN | refine Below.setCell (p := ⟨w.heap.size, 0, none⟩) ?_ (Nat.le_refl _) _ | refine Below.setCell (p := ⟨w.heap.size, 1, none⟩) ?_ (Nat.le_refl _) _ | refine Below.alloc ?_ (Nat.le_refl _) _ | exact Below.refl _ _))⟩
    have b39 : (c == 39) = false := beq_eq_false_iff_ne.2 c39
    by_cases c64 : c = 64
    · subst c64
      by_cases d97 : 97 ≤ d
      · by_cases d122 : d ≤ 122
        · have e1 : lowB d = true := by simp [lowB, d97, d122]
          have hl : i + 1 < s.size := bt_lt' (p := lowB) (i := i + 1) (by rw [HD.out]; exact e1) (by decide)
          have HW := Lib.hid (fun W => rlang_any s (i + 1) W hs (by omega))
          have hw2 := cnt_le lowdB s (i + 1)
          have HZ := Lib.hid (show tokR s i = some (6, s.extract (i + 1) (i + 1 + cnt lowdB s (i + 1)), i + 1 + cnt lowdB s (i + 1)) by rw [HP.out]; unfold tokR2; rw [HC.out, HD.out, if_neg (show ¬ ((64 : Int) = 95 ∧ d = 58 ∧ 0 < cnt (wordsB false false) s (i + 2)) from fun h => by have := h.1; omega), if_neg (show ¬ (((64 : Int) = 63 ∨ (64 : Int) = 36) ∧ letterB d = true) from fun h => by rcases h.1 with h | h <;> omega), if_neg (show ¬ ((64 : Int) = 34 ∨ (64 : Int) = 39) from fun h => by rcases h with h | h <;> omega), if_pos ⟨rfl, e1⟩])
          generalize cnt lowdB s (i + 1) = n at *
          have HW2 := Lib.hid (show ∀ W, Calls Tryd.prog 60 #[.string s, .int .i64 ((i : Int) + 1)] W fun e w' => e = .returned (.int .i64 ((i : Int) + 1 + n)) ∧ W = w' from fun W => by have := HW.out W; simpa using this)
          clear HW HP e1
          go_wp2_with (first | ((with_reducible refine (HI0.out _).mono ?_); rintro e w' ⟨rfl, rfl⟩) | ((with_reducible refine (HW2.out _).mono ?_); rintro e w' ⟨rfl, rfl⟩))
          refine bodyPost_ret (v := .tuple #[.agg #[.int .i64 6, .string (s.extract (i + 1) (i + 1 + n))], .int .i64 ((i : Int) + 1 + n)]) (by simp [results, Tryd.results30, go_sem]) rfl ?_
          rw [HZ.out]
          exact ⟨by first | rfl | (simp; done), (by repeat (first | exact HB.out | exact HB.out.trans (hb2.mono (by simp)) | apply Below.drew | apply bel_drewN | refine Below.setCell (p := ⟨w.heap.size, 0, none⟩) ?_ (Nat.le_refl _) _ | refine Below.setCell (p := ⟨w.heap.size, 1, none⟩) ?_ (Nat.le_refl _) _ | refine Below.alloc ?_ (Nat.le_refl _) _ | exact Below.refl _ _))⟩
        · have e1 : lowB d = false := by simp [lowB]; omega
          have HDg := Lib.hid (fun W => calls_as (rdigit_any 64 W) (b' := false) (by decide))
          have HLt := Lib.hid (fun W => calls_as (rletter_any 64 W) (b' := false) (by decide))
          have HS := Lib.hid (show tokR s i = tokS s i by rw [HP.out]; unfold tokR2 tokS; rw [HC.out, HD.out, e1]; simp [digitB, letterB])
          have HG := Lib.hid (fun W => rsgn_any (s.extract i s.size) W (by simp; omega) (by simp; omega))
          have hsl := signR_le s i hi
          have HD := Lib.hid (show tokS s i = if signR (s.extract i s.size) = 0 then none else some (9, s.extract i (i + signR (s.extract i s.size)), i + signR (s.extract i s.size)) from rfl)
          generalize signR (s.extract i s.size) = gg at *
          by_cases hg : gg = 0
          · have HZ := Lib.hid (show tokR s i = none by rw [HS.out, HD.out, if_pos hg])
            have HG0 := Lib.hid (show ∀ W, Calls Tryd.prog 64 #[.string (s.extract i s.size)] W fun e w' => e = .returned (.int .i64 0) ∧ Below W.heap.size W w' from fun W => by have := HG.out W; rw [hg] at this; exact this)
            clear HS HD HG hg
            go_wp2_with (first | ((with_reducible refine (HI0.out _).mono ?_); rintro e w' ⟨rfl, rfl⟩) | ((with_reducible refine (HDg.out _).mono ?_); rintro e w' ⟨rfl, rfl⟩) | ((with_reducible refine (HLt.out _).mono ?_); rintro e w' ⟨rfl, rfl⟩) | ((with_reducible refine (HG0.out _).mono ?_); rintro e w2 ⟨rfl, hb2⟩; have q0 : w2.cell? ⟨w.heap.size, 0, none⟩ = some (.int .i64 0) := (hb2.cell (p := ⟨w.heap.size, 0, none⟩) (by simp)).trans (by simp); have q1 : w2.cell? ⟨w.heap.size, 1, none⟩ = some (.string ⟨#[]⟩) := (hb2.cell (p := ⟨w.heap.size, 1, none⟩) (by simp)).trans (by simp); have f0 : w2.frozen? ⟨w.heap.size, 0, none⟩ = false := (hb2.frozen (p := ⟨w.heap.size, 0, none⟩) (by simp)).trans (by simp); have f1 : w2.frozen? ⟨w.heap.size, 1, none⟩ = false := (hb2.frozen (p := ⟨w.heap.size, 1, none⟩) (by simp)).trans (by simp); have hz2 : w.heap.size < w2.heap.size := by (have h9 := hb2.size; simp at h9; omega)))
            refine bodyPost_ret (v := .tuple #[.agg #[.int .i64 0, .string (⟨#[]⟩)], .int .i64 0]) (by simp [results, Tryd.results30, go_sem, q0, q1, hz2]) rfl ?_
            rw [HZ.out]
            exact ⟨_, _, rfl, (by repeat (first | exact HB.out | exact HB.out.trans (hb2.mono (by simp)) | apply Below.drew | apply bel_drewN | refine Below.setCell (p := ⟨w.heap.size, 0, none⟩) ?_ (Nat.le_refl _) _ | refine Below.setCell (p := ⟨w.heap.size, 1, none⟩) ?_ (Nat.le_refl _) _ | refine Below.alloc ?_ (Nat.le_refl _) _ | exact Below.refl _ _))⟩
          · have HZ := Lib.hid (show tokR s i = some (9, s.extract i (i + gg), i + gg) by rw [HS.out, HD.out, if_neg hg])
            have hgb : ((gg : Int) == 0) = false := beq_eq_false_iff_ne.2 (by omega)
            clear HS HD hg
            go_wp2_with (first | ((with_reducible refine (HI0.out _).mono ?_); rintro e w' ⟨rfl, rfl⟩) | ((with_reducible refine (HDg.out _).mono ?_); rintro e w' ⟨rfl, rfl⟩) | ((with_reducible refine (HLt.out _).mono ?_); rintro e w' ⟨rfl, rfl⟩) | ((with_reducible refine (HG.out _).mono ?_); rintro e w2 ⟨rfl, hb2⟩; have q0 : w2.cell? ⟨w.heap.size, 0, none⟩ = some (.int .i64 0) := (hb2.cell (p := ⟨w.heap.size, 0, none⟩) (by simp)).trans (by simp); have q1 : w2.cell? ⟨w.heap.size, 1, none⟩ = some (.string ⟨#[]⟩) := (hb2.cell (p := ⟨w.heap.size, 1, none⟩) (by simp)).trans (by simp); have f0 : w2.frozen? ⟨w.heap.size, 0, none⟩ = false := (hb2.frozen (p := ⟨w.heap.size, 0, none⟩) (by simp)).trans (by simp); have f1 : w2.frozen? ⟨w.heap.size, 1, none⟩ = false := (hb2.frozen (p := ⟨w.heap.size, 1, none⟩) (by simp)).trans (by simp); have hz2 : w.heap.size < w2.heap.size := by (have h9 := hb2.size; simp at h9; omega)))
            refine bodyPost_ret (v := .tuple #[.agg #[.int .i64 9, .string (s.extract i (i + gg))], .int .i64 ((i : Int) + gg)]) (by simp [results, Tryd.results30, go_sem, q0, q1, hz2]) rfl ?_
            rw [HZ.out]
            exact ⟨by first | rfl | (simp; done), (by repeat (first | exact HB.out | exact HB.out.trans (hb2.mono (by simp)) | apply Below.drew | apply bel_drewN | refine Below.setCell (p := ⟨w.heap.size, 0, none⟩) ?_ (Nat.le_refl _) _ | refine Below.setCell (p := ⟨w.heap.size, 1, none⟩) ?_ (Nat.le_refl _) _ | refine Below.alloc ?_ (Nat.le_refl _) _ | exact Below.refl _ _))⟩
      · have e1 : lowB d = false := by simp [lowB]; omega
        have HDg := Lib.hid (fun W => calls_as (rdigit_any 64 W) (b' := false) (by decide))
        have HLt := Lib.hid (fun W => calls_as (rletter_any 64 W) (b' := false) (by decide))
        have HS := Lib.hid (show tokR s i = tokS s i by rw [HP.out]; unfold tokR2 tokS; rw [HC.out, HD.out, e1]; simp [digitB, letterB])
        have HG := Lib.hid (fun W => rsgn_any (s.extract i s.size) W (by simp; omega) (by simp; omega))
        have hsl := signR_le s i hi
        have HD := Lib.hid (show tokS s i = if signR (s.extract i s.size) = 0 then none else some (9, s.extract i (i + signR (s.extract i s.size)), i + signR (s.extract i s.size)) from rfl)
        generalize signR (s.extract i s.size) = gg at *
        by_cases hg : gg = 0
        · have HZ := Lib.hid (show tokR s i = none by rw [HS.out, HD.out, if_pos hg])
          have HG0 := Lib.hid (show ∀ W, Calls Tryd.prog 64 #[.string (s.extract i s.size)] W fun e w' => e = .returned (.int .i64 0) ∧ Below W.heap.size W w' from fun W => by have := HG.out W; rw [hg] at this; exact this)
          clear HS HD HG hg
          go_wp2_with (first | ((with_reducible refine (HI0.out _).mono ?_); rintro e w' ⟨rfl, rfl⟩) | ((with_reducible refine (HDg.out _).mono ?_); rintro e w' ⟨rfl, rfl⟩) | ((with_reducible refine (HLt.out _).mono ?_); rintro e w' ⟨rfl, rfl⟩) | ((with_reducible refine (HG0.out _).mono ?_); rintro e w2 ⟨rfl, hb2⟩; have q0 : w2.cell? ⟨w.heap.size, 0, none⟩ = some (.int .i64 0) := (hb2.cell (p := ⟨w.heap.size, 0, none⟩) (by simp)).trans (by simp); have q1 : w2.cell? ⟨w.heap.size, 1, none⟩ = some (.string ⟨#[]⟩) := (hb2.cell (p := ⟨w.heap.size, 1, none⟩) (by simp)).trans (by simp); have f0 : w2.frozen? ⟨w.heap.size, 0, none⟩ = false := (hb2.frozen (p := ⟨w.heap.size, 0, none⟩) (by simp)).trans (by simp); have f1 : w2.frozen? ⟨w.heap.size, 1, none⟩ = false := (hb2.frozen (p := ⟨w.heap.size, 1, none⟩) (by simp)).trans (by simp); have hz2 : w.heap.size < w2.heap.size := by (have h9 := hb2.size; simp at h9; omega)))
          refine bodyPost_ret (v := .tuple #[.agg #[.int .i64 0, .string (⟨#[]⟩)], .int .i64 0]) (by simp [results, Tryd.results30, go_sem, q0, q1, hz2]) rfl ?_
          rw [HZ.out]
          exact ⟨_, _, rfl, (by repeat (first | exact HB.out | exact HB.out.trans (hb2.mono (by simp)) | apply Below.drew | apply bel_drewN | refine Below.setCell (p := ⟨w.heap.size, 0, none⟩) ?_ (Nat.le_refl _) _ | refine Below.setCell (p := ⟨w.heap.size, 1, none⟩) ?_ (Nat.le_refl _) _ | refine Below.alloc ?_ (Nat.le_refl _) _ | exact Below.refl _ _))⟩
        · have HZ := Lib.hid (show tokR s i = some (9, s.extract i (i + gg), i + gg) by rw [HS.out, HD.out, if_neg hg])
          have hgb : ((gg : Int) == 0) = false := beq_eq_false_iff_ne.2 (by omega)
          clear HS HD hg
          go_wp2_with (first | ((with_reducible refine (HI0.out _).mono ?_); rintro e w' ⟨rfl, rfl⟩) | ((with_reducible refine (HDg.out _).mono ?_); rintro e w' ⟨rfl, rfl⟩) | ((with_reducible refine (HLt.out _).mono ?_); rintro e w' ⟨rfl, rfl⟩) | ((with_reducible refine (HG.out _).mono ?_); rintro e w2 ⟨rfl, hb2⟩; have q0 : w2.cell? ⟨w.heap.size, 0, none⟩ = some (.int .i64 0) := (hb2.cell (p := ⟨w.heap.size, 0, none⟩) (by simp)).trans (by simp); have q1 : w2.cell? ⟨w.heap.size, 1, none⟩ = some (.string ⟨#[]⟩) := (hb2.cell (p := ⟨w.heap.size, 1, none⟩) (by simp)).trans (by simp); have f0 : w2.frozen? ⟨w.heap.size, 0, none⟩ = false := (hb2.frozen (p := ⟨w.heap.size, 0, none⟩) (by simp)).trans (by simp); have f1 : w2.frozen? ⟨w.heap.size, 1, none⟩ = false := (hb2.frozen (p := ⟨w.heap.size, 1, none⟩) (by simp)).trans (by simp); have hz2 : w.heap.size < w2.heap.size := by (have h9 := hb2.size; simp at h9; omega)))
          refine bodyPost_ret (v := .tuple #[.agg #[.int .i64 9, .string (s.extract i (i + gg))], .int .i64 ((i : Int) + gg)]) (by simp [results, Tryd.results30, go_sem, q0, q1, hz2]) rfl ?_
          rw [HZ.out]
          exact ⟨by first | rfl | (simp; done), (by repeat (first | exact HB.out | exact HB.out.trans (hb2.mono (by simp)) | apply Below.drew | apply bel_drewN | refine Below.setCell (p := ⟨w.heap.size, 0, none⟩) ?_ (Nat.le_refl _) _ | refine Below.setCell (p := ⟨w.heap.size, 1, none⟩) ?_ (Nat.le_refl _) _ | refine Below.alloc ?_ (Nat.le_refl _) _ | exact Below.refl _ _))⟩
    have b64 : (c == 64) = false := beq_eq_false_iff_ne.2 c64
    have hdg := fun W => rdigit_any c W
    have hlt := fun W => rletter_any c W
    cases eD : digitB c with
    | true =>
      rw [eD] at hdg
      have HDg := Lib.hid hdg
      have HN := Lib.hid (fun W => rnumber_any s i W hs (by omega))
      have hnl := numR_le s i (by omega)
      have HZ := Lib.hid (show tokR s i = some (7, s.extract i (numR s i), numR s i) by rw [HP.out]; unfold tokR2; rw [HC.out, HD.out, if_neg (show ¬ ((c : Int) = 95 ∧ d = 58 ∧ 0 < cnt (wordsB false false) s (i + 2)) from fun h => by have := h.1; omega), if_neg (show ¬ (((c : Int) = 63 ∨ (c : Int) = 36) ∧ letterB d = true) from fun h => by rcases h.1 with h | h <;> omega), if_neg (show ¬ ((c : Int) = 34 ∨ (c : Int) = 39) from fun h => by rcases h with h | h <;> omega), if_neg (show ¬ ((c : Int) = 64 ∧ lowB d = true) from fun h => by have := h.1; omega), if_pos eD])
      generalize numR s i = n at *
      obtain ⟨hn1, hn2⟩ := hnl
      clear HP eD hdg hlt
      go_wp2_with (first | ((with_reducible refine (HI0.out _).mono ?_); rintro e w' ⟨rfl, rfl⟩) | ((with_reducible refine (HDg.out _).mono ?_); rintro e w' ⟨rfl, rfl⟩) | ((with_reducible refine (HN.out _).mono ?_); rintro e w' ⟨rfl, rfl⟩))
      refine bodyPost_ret (v := .tuple #[.agg #[.int .i64 7, .string (s.extract i n)], .int .i64 (n)]) (by simp [results, Tryd.results30, go_sem]) rfl ?_
      rw [HZ.out]
      exact ⟨by first | rfl | (simp; done), (by repeat (first | exact HB.out | exact HB.out.trans (hb2.mono (by simp)) | apply Below.drew | apply bel_drewN | refine Below.setCell (p := ⟨w.heap.size, 0, none⟩) ?_ (Nat.le_refl _) _ | refine Below.setCell (p := ⟨w.heap.size, 1, none⟩) ?_ (Nat.le_refl _) _ | refine Below.alloc ?_ (Nat.le_refl _) _ | exact Below.refl _ _))⟩
    | false =>
      rw [eD] at hdg
      have HDg := Lib.hid hdg
      clear hdg
      cases eL : letterB c with
      | true =>
        rw [eL] at hlt
        have HLt := Lib.hid hlt
        have HN := Lib.hid (fun W => rname_any s i W hs (by omega))
        have hnl := nameR_le s i (by omega)
        have c58 : c ≠ 58 := fun h => by rw [h] at eL; exact absurd eL (by decide)
        by_cases h2 : 0 < nameR s i
        · have HZ := Lib.hid (show tokR s i = some (2, s.extract i (nameR s i), nameR s i) by rw [HP.out]; unfold tokR2; rw [HC.out, HD.out, if_neg (show ¬ ((c : Int) = 95 ∧ d = 58 ∧ 0 < cnt (wordsB false false) s (i + 2)) from fun h => by have := h.1; omega), if_neg (show ¬ (((c : Int) = 63 ∨ (c : Int) = 36) ∧ letterB d = true) from fun h => by rcases h.1 with h | h <;> omega), if_neg (show ¬ ((c : Int) = 34 ∨ (c : Int) = 39) from fun h => by rcases h with h | h <;> omega), if_neg (show ¬ ((c : Int) = 64 ∧ lowB d = true) from fun h => by have := h.1; omega), if_neg (by rw [eD]; simp), if_pos ⟨.inl eL, h2⟩])
          generalize nameR s i = n at *
          obtain ⟨hn1, hn2⟩ := hnl h2
          clear HP eD eL hlt hnl
          go_wp2_with (first | ((with_reducible refine (HI0.out _).mono ?_); rintro e w' ⟨rfl, rfl⟩) | ((with_reducible refine (HDg.out _).mono ?_); rintro e w' ⟨rfl, rfl⟩) | ((with_reducible refine (HLt.out _).mono ?_); rintro e w' ⟨rfl, rfl⟩) | ((with_reducible refine (HN.out _).mono ?_); rintro e w' ⟨rfl, rfl⟩))
          refine bodyPost_ret (v := .tuple #[.agg #[.int .i64 2, .string (s.extract i n)], .int .i64 (n)]) (by simp [results, Tryd.results30, go_sem]) rfl ?_
          rw [HZ.out]
          exact ⟨by first | rfl | (simp; done), (by repeat (first | exact HB.out | exact HB.out.trans (hb2.mono (by simp)) | apply Below.drew | apply bel_drewN | refine Below.setCell (p := ⟨w.heap.size, 0, none⟩) ?_ (Nat.le_refl _) _ | refine Below.setCell (p := ⟨w.heap.size, 1, none⟩) ?_ (Nat.le_refl _) _ | refine Below.alloc ?_ (Nat.le_refl _) _ | exact Below.refl _ _))⟩
        · have hn0 : nameR s i = 0 := by omega
          have HW := Lib.hid (fun W => rwords_any s i false false W hs (by omega))
          have hw2 := cnt_le (wordsB false false) s i
          have HZ := Lib.hid (show tokR s i = some (8, s.extract i (i + cnt (wordsB false false) s i), i + cnt (wordsB false false) s i) by rw [HP.out]; unfold tokR2; rw [HC.out, HD.out, if_neg (show ¬ ((c : Int) = 95 ∧ d = 58 ∧ 0 < cnt (wordsB false false) s (i + 2)) from fun h => by have := h.1; omega), if_neg (show ¬ (((c : Int) = 63 ∨ (c : Int) = 36) ∧ letterB d = true) from fun h => by rcases h.1 with h | h <;> omega), if_neg (show ¬ ((c : Int) = 34 ∨ (c : Int) = 39) from fun h => by rcases h with h | h <;> omega), if_neg (show ¬ ((c : Int) = 64 ∧ lowB d = true) from fun h => by have := h.1; omega), if_neg (by rw [eD]; simp), if_neg (fun h => h2 h.2), if_pos eL])
          have HN0 := Lib.hid (show ∀ W, Calls Tryd.prog 63 #[.string s, .int .i64 i] W fun e w' => e = .returned (.int .i64 0) ∧ W = w' from fun W => by have := HN.out W; rw [hn0] at this; exact this)
          generalize cnt (wordsB false false) s i = n at *
          have HW2 := Lib.hid (show ∀ W, Calls Tryd.prog 57 #[.string s, .int .i64 i, .bool false, .bool false] W fun e w' => e = .returned (.int .i64 ((i : Int) + n)) ∧ W = w' from fun W => by have := HW.out W; simpa using this)
          clear HP eD eL hlt HN hn0 h2 HW hnl
          go_wp2_with (first | ((with_reducible refine (HI0.out _).mono ?_); rintro e w' ⟨rfl, rfl⟩) | ((with_reducible refine (HDg.out _).mono ?_); rintro e w' ⟨rfl, rfl⟩) | ((with_reducible refine (HLt.out _).mono ?_); rintro e w' ⟨rfl, rfl⟩) | ((with_reducible refine (HN0.out _).mono ?_); rintro e w' ⟨rfl, rfl⟩) | ((with_reducible refine (HW2.out _).mono ?_); rintro e w' ⟨rfl, rfl⟩))
          refine bodyPost_ret (v := .tuple #[.agg #[.int .i64 8, .string (s.extract i (i + n))], .int .i64 ((i : Int) + n)]) (by simp [results, Tryd.results30, go_sem]) rfl ?_
          rw [HZ.out]
          exact ⟨by first | rfl | (simp; done), (by repeat (first | exact HB.out | exact HB.out.trans (hb2.mono (by simp)) | apply Below.drew | apply bel_drewN | refine Below.setCell (p := ⟨w.heap.size, 0, none⟩) ?_ (Nat.le_refl _) _ | refine Below.setCell (p := ⟨w.heap.size, 1, none⟩) ?_ (Nat.le_refl _) _ | refine Below.alloc ?_ (Nat.le_refl _) _ | exact Below.refl _ _))⟩
      | false =>
        rw [eL] at hlt
        have HLt := Lib.hid hlt
        clear hlt
        by_cases c58 : c = 58
        · subst c58
          have HN := Lib.hid (fun W => rname_any s i W hs (by omega))
          have hnl := nameR_le s i (by omega)
          have h2 : 0 < nameR s i := by
            have hk : nameKR s i = i := by unfold nameKR; rw [HC.out]; rfl
            unfold nameR
            rw [hk, if_pos HC.out]
            have := undot_gt s i HC.out (i + 1 + cnt (wordsB true true) s (i + 1)) (by omega)
            omega
          have HZ := Lib.hid (show tokR s i = some (2, s.extract i (nameR s i), nameR s i) by rw [HP.out]; unfold tokR2; rw [HC.out, HD.out, if_neg (show ¬ ((58 : Int) = 95 ∧ d = 58 ∧ 0 < cnt (wordsB false false) s (i + 2)) from fun h => by have := h.1; omega), if_neg (show ¬ (((58 : Int) = 63 ∨ (58 : Int) = 36) ∧ letterB d = true) from fun h => by rcases h.1 with h | h <;> omega), if_neg (show ¬ ((58 : Int) = 34 ∨ (58 : Int) = 39) from fun h => by rcases h with h | h <;> omega), if_neg (show ¬ ((58 : Int) = 64 ∧ lowB d = true) from fun h => by have := h.1; omega), if_neg (by decide), if_pos ⟨.inr rfl, h2⟩])
          generalize nameR s i = n at *
          obtain ⟨hn1, hn2⟩ := hnl h2
          clear HP eD eL hnl
          go_wp2_with (first | ((with_reducible refine (HI0.out _).mono ?_); rintro e w' ⟨rfl, rfl⟩) | ((with_reducible refine (HDg.out _).mono ?_); rintro e w' ⟨rfl, rfl⟩) | ((with_reducible refine (HLt.out _).mono ?_); rintro e w' ⟨rfl, rfl⟩) | ((with_reducible refine (HN.out _).mono ?_); rintro e w' ⟨rfl, rfl⟩))
          refine bodyPost_ret (v := .tuple #[.agg #[.int .i64 2, .string (s.extract i n)], .int .i64 (n)]) (by simp [results, Tryd.results30, go_sem]) rfl ?_
          rw [HZ.out]
          exact ⟨by first | rfl | (simp; done), (by repeat (first | exact HB.out | exact HB.out.trans (hb2.mono (by simp)) | apply Below.drew | apply bel_drewN | refine Below.setCell (p := ⟨w.heap.size, 0, none⟩) ?_ (Nat.le_refl _) _ | refine Below.setCell (p := ⟨w.heap.size, 1, none⟩) ?_ (Nat.le_refl _) _ | refine Below.alloc ?_ (Nat.le_refl _) _ | exact Below.refl _ _))⟩
        · have b58 : (c == 58) = false := beq_eq_false_iff_ne.2 c58
          have HDg := Lib.hid (fun W => calls_as (rdigit_any c W) (b' := false) (eD))
          have HLt := Lib.hid (fun W => calls_as (rletter_any c W) (b' := false) (eL))
          have HS := Lib.hid (show tokR s i = tokS s i by rw [HP.out]; unfold tokR2; rw [HC.out, HD.out, if_neg (show ¬ ((c : Int) = 95 ∧ d = 58 ∧ 0 < cnt (wordsB false false) s (i + 2)) from fun h => by have := h.1; omega), if_neg (show ¬ (((c : Int) = 63 ∨ (c : Int) = 36) ∧ letterB d = true) from fun h => by rcases h.1 with h | h <;> omega), if_neg (show ¬ ((c : Int) = 34 ∨ (c : Int) = 39) from fun h => by rcases h with h | h <;> omega), if_neg (show ¬ ((c : Int) = 64 ∧ lowB d = true) from fun h => by have := h.1; omega), if_neg (by rw [eD]; simp), if_neg (show ¬ ((letterB c = true ∨ c = 58) ∧ 0 < nameR s i) from fun h => by rcases h.1 with h | h; exact absurd (eL.symm.trans h) (by simp); exact c58 h), if_neg (by rw [eL]; simp)])
          have HG := Lib.hid (fun W => rsgn_any (s.extract i s.size) W (by simp; omega) (by simp; omega))
          have hsl := signR_le s i hi
          have HD := Lib.hid (show tokS s i = if signR (s.extract i s.size) = 0 then none else some (9, s.extract i (i + signR (s.extract i s.size)), i + signR (s.extract i s.size)) from rfl)
          generalize signR (s.extract i s.size) = gg at *
          by_cases hg : gg = 0
          · have HZ := Lib.hid (show tokR s i = none by rw [HS.out, HD.out, if_pos hg])
            have HG0 := Lib.hid (show ∀ W, Calls Tryd.prog 64 #[.string (s.extract i s.size)] W fun e w' => e = .returned (.int .i64 0) ∧ Below W.heap.size W w' from fun W => by have := HG.out W; rw [hg] at this; exact this)
            clear HS HD HG hg
            go_wp2_with (first | ((with_reducible refine (HI0.out _).mono ?_); rintro e w' ⟨rfl, rfl⟩) | ((with_reducible refine (HDg.out _).mono ?_); rintro e w' ⟨rfl, rfl⟩) | ((with_reducible refine (HLt.out _).mono ?_); rintro e w' ⟨rfl, rfl⟩) | ((with_reducible refine (HG0.out _).mono ?_); rintro e w2 ⟨rfl, hb2⟩; have q0 : w2.cell? ⟨w.heap.size, 0, none⟩ = some (.int .i64 0) := (hb2.cell (p := ⟨w.heap.size, 0, none⟩) (by simp)).trans (by simp); have q1 : w2.cell? ⟨w.heap.size, 1, none⟩ = some (.string ⟨#[]⟩) := (hb2.cell (p := ⟨w.heap.size, 1, none⟩) (by simp)).trans (by simp); have f0 : w2.frozen? ⟨w.heap.size, 0, none⟩ = false := (hb2.frozen (p := ⟨w.heap.size, 0, none⟩) (by simp)).trans (by simp); have f1 : w2.frozen? ⟨w.heap.size, 1, none⟩ = false := (hb2.frozen (p := ⟨w.heap.size, 1, none⟩) (by simp)).trans (by simp); have hz2 : w.heap.size < w2.heap.size := by (have h9 := hb2.size; simp at h9; omega)))
            refine bodyPost_ret (v := .tuple #[.agg #[.int .i64 0, .string (⟨#[]⟩)], .int .i64 0]) (by simp [results, Tryd.results30, go_sem, q0, q1, hz2]) rfl ?_
            rw [HZ.out]
            exact ⟨_, _, rfl, (by repeat (first | exact HB.out | exact HB.out.trans (hb2.mono (by simp)) | apply Below.drew | apply bel_drewN | refine Below.setCell (p := ⟨w.heap.size, 0, none⟩) ?_ (Nat.le_refl _) _ | refine Below.setCell (p := ⟨w.heap.size, 1, none⟩) ?_ (Nat.le_refl _) _ | refine Below.alloc ?_ (Nat.le_refl _) _ | exact Below.refl _ _))⟩
          · have HZ := Lib.hid (show tokR s i = some (9, s.extract i (i + gg), i + gg) by rw [HS.out, HD.out, if_neg hg])
            have hgb : ((gg : Int) == 0) = false := beq_eq_false_iff_ne.2 (by omega)
            clear HS HD hg
            go_wp2_with (first | ((with_reducible refine (HI0.out _).mono ?_); rintro e w' ⟨rfl, rfl⟩) | ((with_reducible refine (HDg.out _).mono ?_); rintro e w' ⟨rfl, rfl⟩) | ((with_reducible refine (HLt.out _).mono ?_); rintro e w' ⟨rfl, rfl⟩) | ((with_reducible refine (HG.out _).mono ?_); rintro e w2 ⟨rfl, hb2⟩; have q0 : w2.cell? ⟨w.heap.size, 0, none⟩ = some (.int .i64 0) := (hb2.cell (p := ⟨w.heap.size, 0, none⟩) (by simp)).trans (by simp); have q1 : w2.cell? ⟨w.heap.size, 1, none⟩ = some (.string ⟨#[]⟩) := (hb2.cell (p := ⟨w.heap.size, 1, none⟩) (by simp)).trans (by simp); have f0 : w2.frozen? ⟨w.heap.size, 0, none⟩ = false := (hb2.frozen (p := ⟨w.heap.size, 0, none⟩) (by simp)).trans (by simp); have f1 : w2.frozen? ⟨w.heap.size, 1, none⟩ = false := (hb2.frozen (p := ⟨w.heap.size, 1, none⟩) (by simp)).trans (by simp); have hz2 : w.heap.size < w2.heap.size := by (have h9 := hb2.size; simp at h9; omega)))
            refine bodyPost_ret (v := .tuple #[.agg #[.int .i64 9, .string (s.extract i (i + gg))], .int .i64 ((i : Int) + gg)]) (by simp [results, Tryd.results30, go_sem, q0, q1, hz2]) rfl ?_
            rw [HZ.out]
            exact ⟨by first | rfl | (simp; done), (by repeat (first | exact HB.out | exact HB.out.trans (hb2.mono (by simp)) | apply Below.drew | apply bel_drewN | refine Below.setCell (p := ⟨w.heap.size, 0, none⟩) ?_ (Nat.le_refl _) _ | refine Below.setCell (p := ⟨w.heap.size, 1, none⟩) ?_ (Nat.le_refl _) _ | refine Below.alloc ?_ (Nat.le_refl _) _ | exact Below.refl _ _))⟩
end Go.Proofs.YtpgoemlnjocmhaaDoor.Lex
