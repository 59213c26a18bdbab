/-
  A part of the proof of LexTokens (whatever the input, the law returns true and the input reads as it did): the law walked. Conditions stand at each theorem.
-/
import Derived.Test.YtpgoemlnjocmhaaDoorLexV
namespace Go.Proofs.YtpgoemlnjocmhaaDoor.Lex
open Go.RowKit Go.Proofs.YtpgoemlnjocmhaaDoorW.PrintWords
set_option linter.unusedVariables false
set_option linter.unusedSimpArgs false

theorem lexF_len : ∀ (k : Nat) (s : ByteArray) (out l : List Tok), out.length + s.size ≤ 4000 → lexF k s out = some l → l.length ≤ 4000
  | 0, s, out, l, h, he => by simp [lexF] at he
  | k + 1, s, out, l, h, he => by
    rw [lexF] at he
    split at he
    · simp at he; subst he; omega
    · split at he
      · simp at he
      · rename_i kd t n ht
        have hn := tokT_pos ht
        have h1 := blankF_size ((s.extract n s.size).size + 1) (s.extract n s.size)
        have h2 : (s.extract n s.size).size = s.size - n := by simp
        exact lexF_len k _ _ l (by rw [List.length_append, List.length_singleton]; omega) he
theorem lexT_len (s : ByteArray) : (lexT s).1.length ≤ 4000 := by
  unfold lexT
  split
  · simp
  · have hb := blankF_size (s.size + 1) s
    cases h : lexF (s.size + 1) (blankF (s.size + 1) s) [] with
    | none => simp
    | some l => exact lexF_len _ _ _ _ (by simp; omega) h
theorem lex_known : lexT ⟨#[63, 97, 32, 60, 32, 53]⟩ = ([(4, ⟨#[97]⟩), (9, ⟨#[60]⟩), (7, ⟨#[53]⟩)], 0) := by kernel_rfl

set_option maxHeartbeats 8000000 in
set_option maxRecDepth 100000 in
theorem known_any (w : World) : Calls Tryd.prog 5 #[] w fun e w' => e = .returned (.bool true) ∧ Below w.heap.size w w' := by
  have hT := fun W => tokens_any ⟨#[63, 97, 32, 60, 32, 53]⟩ W (by decide)
  rw [lex_known] at hT
  have HT := Lib.hid hT
  clear hT
  go_enter Tryd.func5, Tryd.ntmps5
  go_wp2_with fail
  refine (HT.out _).mono ?_
  rintro e w1 ⟨v, rfl, ho, hb⟩
  have HB := Lib.hid hb
  rcases ho.2 with ⟨_, hn⟩ | ⟨g, cap, cur, rfl, _⟩
  · exact absurd hn (by decide)
  have hc := ho.cells (g := g) rfl
  have c0 : w1.cell? ⟨g, 0, none⟩ = some (.int .i64 4) := hc 0 _ rfl
  have c3 : w1.cell? ⟨g, 3, none⟩ = some (.string ⟨#[60]⟩) := hc 3 _ rfl
  have c4 : w1.cell? ⟨g, 4, none⟩ = some (.int .i64 7) := hc 4 _ rfl
  clear hc ho hb
  go_wp2
  go_ret
  exact ⟨rfl, HB.out⟩

set_option maxHeartbeats 8000000 in
set_option maxRecDepth 100000 in
theorem law_any (a : Option Addr) (len cap : Nat) (raw : ByteArray) (w : World) (hl : len ≤ 140737488351232) (hr : raw.size ≤ 140737488351232) (hN : NumRow w a len) :
    Calls Tryd.prog 3 #[.slice a len cap, .string raw] w fun e w' => e = .returned (.bool true) ∧ Below w.heap.size w w' := by
  have HN := Lib.hid hN
  clear hN
  by_cases h100 : 100 < raw.size
  · have hd : (100 : Int) < raw.size := by omega
    go_enter Tryd.func3, Tryd.ntmps3
    go_wp2_with fail
    refine (known_any _).mono ?_
    rintro e w1 ⟨rfl, hb⟩
    have HB := Lib.hid hb
    clear hb
    go_wp2
    go_ret
    exact ⟨rfl, HB.out⟩
  · have hd : ¬ (100 : Int) < raw.size := by omega
    have hd2 : (raw.size : Int) ≤ 100 := by omega
    go_enter Tryd.func3, Tryd.ntmps3
    go_wp2_with fail
    refine (known_any _).mono ?_
    rintro e w1 ⟨rfl, hb1⟩
    have HB1 := Lib.hid hb1
    have HN1 := Lib.hid (HN.out.below hb1)
    clear hb1
    go_wp2_with fail
    refine (ltext_any a len cap ⟨#[]⟩ w1 hl (by decide) HN1.out).mono ?_
    rintro e w2 ⟨t1, rfl, ht1, hb2⟩
    have HB2 := Lib.hid (HB1.out.trans (hb2.mono HB1.out.size))
    have HN2 := Lib.hid (HN1.out.below hb2)
    clear hb2
    go_wp2_with fail
    refine (ltext_any a len cap raw w2 hl (by omega) HN2.out).mono ?_
    rintro e w3 ⟨t2, rfl, ht2, hb3⟩
    have HB3 := Lib.hid (HB2.out.trans (hb3.mono HB2.out.size))
    clear hb3
    have hz3 : w.heap.size ≤ w3.heap.size := HB3.out.size
    go_wp2
    go_loopw [6] (fun v6 wr => ∃ (k : Nat), v6 = .int .i64 k ∧ k ≤ 3 ∧ Hid (Below w.heap.size w wr) ∧ Hid (wr.heap[w3.heap.size]? = some (.cells #[.string t1, .string t2, .string raw] 9 (0, 0)))) (fun v6 _ => 3 - (intOf v6).toNat)
    case atStart => exact ⟨0, rfl, by omega, Lib.hid (HB3.out.alloc hz3 _), Lib.hid (heap_alloc_new _ _)⟩
    case round =>
      obtain ⟨k, rfl, hk, HB, HC⟩ := hrel
      by_cases hk3 : k = 3
      · subst hk3
        go_wp2
        go_ret
        exact ⟨rfl, HB.out⟩
      · obtain ⟨t, ht, hct⟩ : ∃ t : ByteArray, t.size ≤ 140737488351232 ∧ ∀ W : World, W.heap[w3.heap.size]? = some (.cells #[.string t1, .string t2, .string raw] 9 (0, 0)) → W.cell? ⟨w3.heap.size, k, none⟩ = some (.string t) := by
          rcases (show k = 0 ∨ k = 1 ∨ k = 2 by omega) with rfl | rfl | rfl
          · exact ⟨t1, by omega, fun W h => blk_cell h 0⟩
          · exact ⟨t2, by omega, fun W h => blk_cell h 1⟩
          · exact ⟨raw, by omega, fun W h => blk_cell h 2⟩
        have HCT := Lib.hid hct
        have c0 := hct wr HC.out
        have hlt := blk_lt HC.out
        have hk2 : k < 3 := by omega
        have hlen := lexT_len t
        have hX := fun W => tokens_any t W ht
        have hY := fun W => rtokens_any t W ht
        rw [ref_eq] at hY
        generalize lexT t = r at *
        obtain ⟨l, c⟩ := r
        have HX := Lib.hid hX
        have HY := Lib.hid hY
        clear hX hY hct hk3
        go_wp2_with fail
        refine (HX.out _).mono ?_
        rintro e x1 ⟨v1, rfl, ho1, hb1⟩
        have HX1 := Lib.hid (TokRow.of ho1)
        have HBx := Lib.hid (HB.out.trans (hb1.mono HB.out.size))
        have HCx := Lib.hid ((hb1.block _ hlt).trans HC.out)
        have c1 := HCT.out _ HCx.out
        have hlt1 := blk_lt HCx.out
        clear ho1 hb1
        go_wp2_with fail
        refine (HY.out _).mono ?_
        rintro e x2 ⟨v2, rfl, ho2, hb2⟩
        have HX2 := Lib.hid (TokRow.of ho2)
        have HX1b := Lib.hid (HX1.out.below hb2)
        have HBy := Lib.hid (HBx.out.trans (hb2.mono HBx.out.size))
        have HCy := Lib.hid ((hb2.block _ hlt1).trans HCx.out)
        have hlt2 := blk_lt HCy.out
        clear ho2 hb2
        go_wp2_with fail
        refine (same_any v1 v2 l x2 hlen HX1b.out HX2.out).mono ?_
        rintro e x3 ⟨rfl, hb3⟩
        have HBz := Lib.hid (HBy.out.trans (hb3.mono HBy.out.size))
        have HCz := Lib.hid ((hb3.block _ hlt2).trans HCy.out)
        clear hb3
        go_wp2
        go_roundw
        case rel => exact ⟨k + 1, by go_num, by omega, HBz, HCz⟩
        case measure => simp [intOf]; omega
end Go.Proofs.YtpgoemlnjocmhaaDoor.Lex
