/-
  A part of the proof of LexTokens (whatever the input, the law returns true and the input reads as it did): lex.Tokens. Conditions stand at each theorem.
-/
import Derived.Test.YtpgoemlnjocmhaaDoorLexI
namespace Go.Proofs.YtpgoemlnjocmhaaDoor.Lex
open Go.RowKit Go.Proofs.YtpgoemlnjocmhaaDoorW.PrintWords
set_option linter.unusedVariables false
set_option linter.unusedSimpArgs false

/-- What Tokens answers: a row of the call's own, and an error's number. -/
def TokPost (r : List Tok × Int) (w : World) (e : Ending) (w' : World) : Prop :=
  ∃ v, e = .returned (.tuple #[v, .int .i64 r.2]) ∧ w'.ownsRow w.heap.size 48 2 v r.1.length (cellsOf r.1) ∧ Below w.heap.size w w'
theorem Scan.new {w : World} {s : ByteArray} (hs : s.size ≤ 140737488351232) : Scan (w.alloc (.cells #[.string s, .slice none 0 0] 52 (0, 0))) w.heap.size w.heap.size s [] :=
  ⟨.slice none 0 0, heap_alloc_new _ _, own_nil _ _ _ _, Nat.le_refl _, hs, by simp⟩
theorem toList_ne {t : ByteArray} (h : 0 < t.size) : t.toList ≠ [] := by
  intro h2
  rw [toList_nil_iff_emptyBytes] at h2
  subst h2
  exact absurd h (by decide)
theorem ofSize0 {t : ByteArray} (h : t.size = 0) : t = ⟨#[]⟩ := by
  rcases t with ⟨d⟩
  have : d.size = 0 := h
  rw [Array.size_eq_zero_iff.1 this]

set_option maxHeartbeats 8000000 in
set_option maxRecDepth 100000 in
theorem tokens_any (s : ByteArray) (w : World) (hs : s.size ≤ 140737488351232) :
    Calls Tryd.prog 7 #[.string s] w (TokPost (lexT s) w) := by
  by_cases h4 : s.size > 4000
  · have hZ : lexT s = ([], 5) := by unfold lexT; rw [if_pos h4]
    rw [hZ]
    have hb : ((4000 : Int) < s.size) := by omega
    clear hZ
    go_enter Tryd.func7, Tryd.ntmps7
    go_wp2
    go_ret2
    exact ⟨_, rfl, own_nil _ _ _ _, Below.refl _ _⟩
  · have HZ := Lib.hid (show lexT s = match lexF (s.size + 1) (blankF (s.size + 1) s) [] with | some l => (l, 0) | none => ([], 6) by unfold lexT; rw [if_neg h4]; rfl)
    have hb : (s.size : Int) ≤ 4000 := by omega
    have HS0 := Lib.hid (Scan.new (w := w) hs)
    have HB0 := Lib.hid ((Below.refl w.heap.size w).alloc (Nat.le_refl _) (.cells #[.string s, .slice none 0 0] 52 (0, 0)))
    have hbf := blankF_size (s.size + 1) s
    go_enter Tryd.func7, Tryd.ntmps7
    go_wp2_with fail
    refine (blanks_any w.heap.size w.heap.size s [] _ HS0.out).mono ?_
    rintro e w1 ⟨rfl, hs1, hb1⟩
    have HS1 := Lib.hid hs1
    have HB1 := Lib.hid (HB0.out.trans hb1)
    clear hs1 hb1
    go_wp2_with fail
    go_loopw [13] (fun _ wr => ∃ (t : ByteArray) (out : List Tok) (k : Nat), Hid (Scan wr w.heap.size w.heap.size t out) ∧ Hid (Below w.heap.size w wr) ∧ out.length + t.size ≤ 4000 ∧ Hid (lexF (s.size + 1) (blankF (s.size + 1) s) [] = lexF k t out ∧ t.size < k)) (fun _ wr => scanLeft w.heap.size wr)
    case atStart => exact ⟨_, [], s.size + 1, HS1, HB1, by simp; omega, Lib.hid ⟨rfl, by omega⟩⟩
    case round =>
      obtain ⟨t, out, k, HSr, HBr, hlen, HK⟩ := hrel
      obtain ⟨k, rfl⟩ : ∃ m, k = m + 1 := ⟨k - 1, by have := HK.out.2; omega⟩
      have hc := HSr.out.cell
      by_cases h0 : t.size = 0
      · have hte := ofSize0 h0
        subst hte
        have HF := Lib.hid (show lexT s = (out, 0) by rw [HZ.out, HK.out.1]; rfl)
        obtain ⟨v, hblk, hown, hBg, _, hol⟩ := HSr.out
        have hc1 : wr.cell? ⟨w.heap.size, 1, none⟩ = some v := by rw [blk_cell hblk 1]; rfl
        have hlt := blk_lt hblk
        have HO := Lib.hid hown
        clear hblk hown
        go_wp2_with fail
        refine (clone_any w.heap.size v out wr HO.out (by omega) (by omega)).mono ?_
        rintro e w2 ⟨v2, rfl, ho2, hb2⟩
        have HO2 := Lib.hid ho2
        have HB2 := Lib.hid (HBr.out.trans hb2)
        clear ho2 hb2
        obtain ⟨A2, c2, rfl⟩ := own_slice HO2.out
        go_wp2
        go_ret2
        rw [HF.out]
        exact ⟨_, rfl, HO2.out, HB2.out⟩
      · have hpos : 0 < t.size := by omega
        have hne := toList_ne hpos
        have hie : t.toList.isEmpty = false := by simpa using hne
        have hsz := HSr.out.sz
        have hol : out.length < 4000 := by omega
        have hlf : lexF (k + 1) t out = match tokT t with | none => none | some (kd, tt, n) => lexF k (blankF ((t.extract n t.size).size + 1) (t.extract n t.size)) (out ++ [(kd, tt)]) := by rw [lexF, if_neg h0]; rfl
        have HLF := Lib.hid hlf
        have HCT := Lib.hid hc
        clear hlf
        cases e0 : iriT t with
        | some r =>
          obtain ⟨kd, tt, n⟩ := r
          have HT := Lib.hid (show tokT t = some (kd, tt, n) by unfold tokT; simp only [e0])
          have hn := tokT_pos HT.out
          have E0 := Lib.hid e0
          clear e0
          go_wp2_with fail
          have h0 := iri_any w.heap.size w.heap.size t out _ HSr.out hol
          rw [E0.out] at h0
          refine h0.mono ?_
          clear h0
          rintro e y ⟨rfl, hsy, hby⟩
          have HSy := Lib.hid hsy
          have HBy := Lib.hid (HBr.out.trans hby)
          clear hsy hby
          go_wp2_with fail
          refine (blanks_any w.heap.size w.heap.size _ _ _ HSy.out).mono ?_
          rintro e z ⟨rfl, hsz, hbz⟩
          have HSz := Lib.hid hsz
          have HBz := Lib.hid (HBy.out.trans hbz)
          clear hsz hbz
          go_wp2
          go_roundw
          case rel => exact ⟨_, _, k, HSz, HBz, by have := blankF_size ((t.extract n t.size).size + 1) (t.extract n t.size); simp at this ⊢; omega, Lib.hid ⟨by rw [HK.out.1, HLF.out, HT.out], by have := blankF_size ((t.extract n t.size).size + 1) (t.extract n t.size); have := HK.out.2; simp at *; omega⟩⟩
          case measure =>
            rw [scanLeft_of HSz.out.cell, scanLeft_of HCT.out]
            have := blankF_size ((t.extract n t.size).size + 1) (t.extract n t.size)
            simp at this ⊢
            omega
        | none =>
          cases e1 : blankT t with
          | some r =>
            obtain ⟨kd, tt, n⟩ := r
            have HT := Lib.hid (show tokT t = some (kd, tt, n) by unfold tokT; simp only [e0, e1])
            have hn := tokT_pos HT.out
            have E0 := Lib.hid e0
            have E1 := Lib.hid e1
            clear e0 e1
            go_wp2_with fail
            have h0 := iri_any w.heap.size w.heap.size t out _ HSr.out hol
            rw [E0.out] at h0
            refine h0.mono ?_
            clear h0
            rintro e x0 ⟨rfl, hs0, hb0⟩
            have HS0 := Lib.hid hs0
            have HB_0 := Lib.hid (HBr.out.trans hb0)
            clear hs0 hb0
            go_wp2_with fail
            have h1 := blank_any w.heap.size w.heap.size t out _ HS0.out hol
            rw [E1.out] at h1
            refine h1.mono ?_
            clear h1
            rintro e y ⟨rfl, hsy, hby⟩
            have HSy := Lib.hid hsy
            have HBy := Lib.hid (HB_0.out.trans hby)
            clear hsy hby
            go_wp2_with fail
            refine (blanks_any w.heap.size w.heap.size _ _ _ HSy.out).mono ?_
            rintro e z ⟨rfl, hsz, hbz⟩
            have HSz := Lib.hid hsz
            have HBz := Lib.hid (HBy.out.trans hbz)
            clear hsz hbz
            go_wp2
            go_roundw
            case rel => exact ⟨_, _, k, HSz, HBz, by have := blankF_size ((t.extract n t.size).size + 1) (t.extract n t.size); simp at this ⊢; omega, Lib.hid ⟨by rw [HK.out.1, HLF.out, HT.out], by have := blankF_size ((t.extract n t.size).size + 1) (t.extract n t.size); have := HK.out.2; simp at *; omega⟩⟩
            case measure =>
              rw [scanLeft_of HSz.out.cell, scanLeft_of HCT.out]
              have := blankF_size ((t.extract n t.size).size + 1) (t.extract n t.size)
              simp at this ⊢
              omega
          | none =>
            cases e2 : varT t with
            | some r =>
              obtain ⟨kd, tt, n⟩ := r
              have HT := Lib.hid (show tokT t = some (kd, tt, n) by unfold tokT; simp only [e0, e1, e2])
              have hn := tokT_pos HT.out
              have E0 := Lib.hid e0
              have E1 := Lib.hid e1
              have E2 := Lib.hid e2
              clear e0 e1 e2
              go_wp2_with fail
              have h0 := iri_any w.heap.size w.heap.size t out _ HSr.out hol
              rw [E0.out] at h0
              refine h0.mono ?_
              clear h0
              rintro e x0 ⟨rfl, hs0, hb0⟩
              have HS0 := Lib.hid hs0
              have HB_0 := Lib.hid (HBr.out.trans hb0)
              clear hs0 hb0
              go_wp2_with fail
              have h1 := blank_any w.heap.size w.heap.size t out _ HS0.out hol
              rw [E1.out] at h1
              refine h1.mono ?_
              clear h1
              rintro e x1 ⟨rfl, hs1, hb1⟩
              have HS1 := Lib.hid hs1
              have HB_1 := Lib.hid (HB_0.out.trans hb1)
              clear hs1 hb1
              go_wp2_with fail
              have h2 := variable_any w.heap.size w.heap.size t out _ HS1.out hol
              rw [E2.out] at h2
              refine h2.mono ?_
              clear h2
              rintro e y ⟨rfl, hsy, hby⟩
              have HSy := Lib.hid hsy
              have HBy := Lib.hid (HB_1.out.trans hby)
              clear hsy hby
              go_wp2_with fail
              refine (blanks_any w.heap.size w.heap.size _ _ _ HSy.out).mono ?_
              rintro e z ⟨rfl, hsz, hbz⟩
              have HSz := Lib.hid hsz
              have HBz := Lib.hid (HBy.out.trans hbz)
              clear hsz hbz
              go_wp2
              go_roundw
              case rel => exact ⟨_, _, k, HSz, HBz, by have := blankF_size ((t.extract n t.size).size + 1) (t.extract n t.size); simp at this ⊢; omega, Lib.hid ⟨by rw [HK.out.1, HLF.out, HT.out], by have := blankF_size ((t.extract n t.size).size + 1) (t.extract n t.size); have := HK.out.2; simp at *; omega⟩⟩
              case measure =>
                rw [scanLeft_of HSz.out.cell, scanLeft_of HCT.out]
                have := blankF_size ((t.extract n t.size).size + 1) (t.extract n t.size)
                simp at this ⊢
                omega
            | none =>
              cases e3 : textT t with
              | some r =>
                obtain ⟨kd, tt, n⟩ := r
                have HT := Lib.hid (show tokT t = some (kd, tt, n) by unfold tokT; simp only [e0, e1, e2, e3])
                have hn := tokT_pos HT.out
                have E0 := Lib.hid e0
                have E1 := Lib.hid e1
                have E2 := Lib.hid e2
                have E3 := Lib.hid e3
                clear e0 e1 e2 e3
                go_wp2_with fail
                have h0 := iri_any w.heap.size w.heap.size t out _ HSr.out hol
                rw [E0.out] at h0
                refine h0.mono ?_
                clear h0
                rintro e x0 ⟨rfl, hs0, hb0⟩
                have HS0 := Lib.hid hs0
                have HB_0 := Lib.hid (HBr.out.trans hb0)
                clear hs0 hb0
                go_wp2_with fail
                have h1 := blank_any w.heap.size w.heap.size t out _ HS0.out hol
                rw [E1.out] at h1
                refine h1.mono ?_
                clear h1
                rintro e x1 ⟨rfl, hs1, hb1⟩
                have HS1 := Lib.hid hs1
                have HB_1 := Lib.hid (HB_0.out.trans hb1)
                clear hs1 hb1
                go_wp2_with fail
                have h2 := variable_any w.heap.size w.heap.size t out _ HS1.out hol
                rw [E2.out] at h2
                refine h2.mono ?_
                clear h2
                rintro e x2 ⟨rfl, hs2, hb2⟩
                have HS2 := Lib.hid hs2
                have HB_2 := Lib.hid (HB_1.out.trans hb2)
                clear hs2 hb2
                go_wp2_with fail
                have h3 := text_any w.heap.size w.heap.size t out _ HS2.out hol
                rw [E3.out] at h3
                refine h3.mono ?_
                clear h3
                rintro e y ⟨rfl, hsy, hby⟩
                have HSy := Lib.hid hsy
                have HBy := Lib.hid (HB_2.out.trans hby)
                clear hsy hby
                go_wp2_with fail
                refine (blanks_any w.heap.size w.heap.size _ _ _ HSy.out).mono ?_
                rintro e z ⟨rfl, hsz, hbz⟩
                have HSz := Lib.hid hsz
                have HBz := Lib.hid (HBy.out.trans hbz)
                clear hsz hbz
                go_wp2
                go_roundw
                case rel => exact ⟨_, _, k, HSz, HBz, by have := blankF_size ((t.extract n t.size).size + 1) (t.extract n t.size); simp at this ⊢; omega, Lib.hid ⟨by rw [HK.out.1, HLF.out, HT.out], by have := blankF_size ((t.extract n t.size).size + 1) (t.extract n t.size); have := HK.out.2; simp at *; omega⟩⟩
                case measure =>
                  rw [scanLeft_of HSz.out.cell, scanLeft_of HCT.out]
                  have := blankF_size ((t.extract n t.size).size + 1) (t.extract n t.size)
                  simp at this ⊢
                  omega
              | none =>
                cases e4 : langT t with
                | some r =>
                  obtain ⟨kd, tt, n⟩ := r
                  have HT := Lib.hid (show tokT t = some (kd, tt, n) by unfold tokT; simp only [e0, e1, e2, e3, e4])
                  have hn := tokT_pos HT.out
                  have E0 := Lib.hid e0
                  have E1 := Lib.hid e1
                  have E2 := Lib.hid e2
                  have E3 := Lib.hid e3
                  have E4 := Lib.hid e4
                  clear e0 e1 e2 e3 e4
                  go_wp2_with fail
                  have h0 := iri_any w.heap.size w.heap.size t out _ HSr.out hol
                  rw [E0.out] at h0
                  refine h0.mono ?_
                  clear h0
                  rintro e x0 ⟨rfl, hs0, hb0⟩
                  have HS0 := Lib.hid hs0
                  have HB_0 := Lib.hid (HBr.out.trans hb0)
                  clear hs0 hb0
                  go_wp2_with fail
                  have h1 := blank_any w.heap.size w.heap.size t out _ HS0.out hol
                  rw [E1.out] at h1
                  refine h1.mono ?_
                  clear h1
                  rintro e x1 ⟨rfl, hs1, hb1⟩
                  have HS1 := Lib.hid hs1
                  have HB_1 := Lib.hid (HB_0.out.trans hb1)
                  clear hs1 hb1
                  go_wp2_with fail
                  have h2 := variable_any w.heap.size w.heap.size t out _ HS1.out hol
                  rw [E2.out] at h2
                  refine h2.mono ?_
                  clear h2
                  rintro e x2 ⟨rfl, hs2, hb2⟩
                  have HS2 := Lib.hid hs2
                  have HB_2 := Lib.hid (HB_1.out.trans hb2)
                  clear hs2 hb2
                  go_wp2_with fail
                  have h3 := text_any w.heap.size w.heap.size t out _ HS2.out hol
                  rw [E3.out] at h3
                  refine h3.mono ?_
                  clear h3
                  rintro e x3 ⟨rfl, hs3, hb3⟩
                  have HS3 := Lib.hid hs3
                  have HB_3 := Lib.hid (HB_2.out.trans hb3)
                  clear hs3 hb3
                  go_wp2_with fail
                  have h4 := language_any w.heap.size w.heap.size t out _ HS3.out hol
                  rw [E4.out] at h4
                  refine h4.mono ?_
                  clear h4
                  rintro e y ⟨rfl, hsy, hby⟩
                  have HSy := Lib.hid hsy
                  have HBy := Lib.hid (HB_3.out.trans hby)
                  clear hsy hby
                  go_wp2_with fail
                  refine (blanks_any w.heap.size w.heap.size _ _ _ HSy.out).mono ?_
                  rintro e z ⟨rfl, hsz, hbz⟩
                  have HSz := Lib.hid hsz
                  have HBz := Lib.hid (HBy.out.trans hbz)
                  clear hsz hbz
                  go_wp2
                  go_roundw
                  case rel => exact ⟨_, _, k, HSz, HBz, by have := blankF_size ((t.extract n t.size).size + 1) (t.extract n t.size); simp at this ⊢; omega, Lib.hid ⟨by rw [HK.out.1, HLF.out, HT.out], by have := blankF_size ((t.extract n t.size).size + 1) (t.extract n t.size); have := HK.out.2; simp at *; omega⟩⟩
                  case measure =>
                    rw [scanLeft_of HSz.out.cell, scanLeft_of HCT.out]
                    have := blankF_size ((t.extract n t.size).size + 1) (t.extract n t.size)
                    simp at this ⊢
                    omega
                | none =>
                  cases e5 : numT t with
                  | some r =>
                    obtain ⟨kd, tt, n⟩ := r
                    have HT := Lib.hid (show tokT t = some (kd, tt, n) by unfold tokT; simp only [e0, e1, e2, e3, e4, e5])
                    have hn := tokT_pos HT.out
                    have E0 := Lib.hid e0
                    have E1 := Lib.hid e1
                    have E2 := Lib.hid e2
                    have E3 := Lib.hid e3
                    have E4 := Lib.hid e4
                    have E5 := Lib.hid e5
                    clear e0 e1 e2 e3 e4 e5
                    go_wp2_with fail
                    have h0 := iri_any w.heap.size w.heap.size t out _ HSr.out hol
                    rw [E0.out] at h0
                    refine h0.mono ?_
                    clear h0
                    rintro e x0 ⟨rfl, hs0, hb0⟩
                    have HS0 := Lib.hid hs0
                    have HB_0 := Lib.hid (HBr.out.trans hb0)
                    clear hs0 hb0
                    go_wp2_with fail
                    have h1 := blank_any w.heap.size w.heap.size t out _ HS0.out hol
                    rw [E1.out] at h1
                    refine h1.mono ?_
                    clear h1
                    rintro e x1 ⟨rfl, hs1, hb1⟩
                    have HS1 := Lib.hid hs1
                    have HB_1 := Lib.hid (HB_0.out.trans hb1)
                    clear hs1 hb1
                    go_wp2_with fail
                    have h2 := variable_any w.heap.size w.heap.size t out _ HS1.out hol
                    rw [E2.out] at h2
                    refine h2.mono ?_
                    clear h2
                    rintro e x2 ⟨rfl, hs2, hb2⟩
                    have HS2 := Lib.hid hs2
                    have HB_2 := Lib.hid (HB_1.out.trans hb2)
                    clear hs2 hb2
                    go_wp2_with fail
                    have h3 := text_any w.heap.size w.heap.size t out _ HS2.out hol
                    rw [E3.out] at h3
                    refine h3.mono ?_
                    clear h3
                    rintro e x3 ⟨rfl, hs3, hb3⟩
                    have HS3 := Lib.hid hs3
                    have HB_3 := Lib.hid (HB_2.out.trans hb3)
                    clear hs3 hb3
                    go_wp2_with fail
                    have h4 := language_any w.heap.size w.heap.size t out _ HS3.out hol
                    rw [E4.out] at h4
                    refine h4.mono ?_
                    clear h4
                    rintro e x4 ⟨rfl, hs4, hb4⟩
                    have HS4 := Lib.hid hs4
                    have HB_4 := Lib.hid (HB_3.out.trans hb4)
                    clear hs4 hb4
                    go_wp2_with fail
                    have h5 := number_any w.heap.size w.heap.size t out _ HS4.out hol
                    rw [E5.out] at h5
                    refine h5.mono ?_
                    clear h5
                    rintro e y ⟨rfl, hsy, hby⟩
                    have HSy := Lib.hid hsy
                    have HBy := Lib.hid (HB_4.out.trans hby)
                    clear hsy hby
                    go_wp2_with fail
                    refine (blanks_any w.heap.size w.heap.size _ _ _ HSy.out).mono ?_
                    rintro e z ⟨rfl, hsz, hbz⟩
                    have HSz := Lib.hid hsz
                    have HBz := Lib.hid (HBy.out.trans hbz)
                    clear hsz hbz
                    go_wp2
                    go_roundw
                    case rel => exact ⟨_, _, k, HSz, HBz, by have := blankF_size ((t.extract n t.size).size + 1) (t.extract n t.size); simp at this ⊢; omega, Lib.hid ⟨by rw [HK.out.1, HLF.out, HT.out], by have := blankF_size ((t.extract n t.size).size + 1) (t.extract n t.size); have := HK.out.2; simp at *; omega⟩⟩
                    case measure =>
                      rw [scanLeft_of HSz.out.cell, scanLeft_of HCT.out]
                      have := blankF_size ((t.extract n t.size).size + 1) (t.extract n t.size)
                      simp at this ⊢
                      omega
                  | none =>
                    cases e6 : nameT t with
                    | some r =>
                      obtain ⟨kd, tt, n⟩ := r
                      have HT := Lib.hid (show tokT t = some (kd, tt, n) by unfold tokT; simp only [e0, e1, e2, e3, e4, e5, e6])
                      have hn := tokT_pos HT.out
                      have E0 := Lib.hid e0
                      have E1 := Lib.hid e1
                      have E2 := Lib.hid e2
                      have E3 := Lib.hid e3
                      have E4 := Lib.hid e4
                      have E5 := Lib.hid e5
                      have E6 := Lib.hid e6
                      clear e0 e1 e2 e3 e4 e5 e6
                      go_wp2_with fail
                      have h0 := iri_any w.heap.size w.heap.size t out _ HSr.out hol
                      rw [E0.out] at h0
                      refine h0.mono ?_
                      clear h0
                      rintro e x0 ⟨rfl, hs0, hb0⟩
                      have HS0 := Lib.hid hs0
                      have HB_0 := Lib.hid (HBr.out.trans hb0)
                      clear hs0 hb0
                      go_wp2_with fail
                      have h1 := blank_any w.heap.size w.heap.size t out _ HS0.out hol
                      rw [E1.out] at h1
                      refine h1.mono ?_
                      clear h1
                      rintro e x1 ⟨rfl, hs1, hb1⟩
                      have HS1 := Lib.hid hs1
                      have HB_1 := Lib.hid (HB_0.out.trans hb1)
                      clear hs1 hb1
                      go_wp2_with fail
                      have h2 := variable_any w.heap.size w.heap.size t out _ HS1.out hol
                      rw [E2.out] at h2
                      refine h2.mono ?_
                      clear h2
                      rintro e x2 ⟨rfl, hs2, hb2⟩
                      have HS2 := Lib.hid hs2
                      have HB_2 := Lib.hid (HB_1.out.trans hb2)
                      clear hs2 hb2
                      go_wp2_with fail
                      have h3 := text_any w.heap.size w.heap.size t out _ HS2.out hol
                      rw [E3.out] at h3
                      refine h3.mono ?_
                      clear h3
                      rintro e x3 ⟨rfl, hs3, hb3⟩
                      have HS3 := Lib.hid hs3
                      have HB_3 := Lib.hid (HB_2.out.trans hb3)
                      clear hs3 hb3
                      go_wp2_with fail
                      have h4 := language_any w.heap.size w.heap.size t out _ HS3.out hol
                      rw [E4.out] at h4
                      refine h4.mono ?_
                      clear h4
                      rintro e x4 ⟨rfl, hs4, hb4⟩
                      have HS4 := Lib.hid hs4
                      have HB_4 := Lib.hid (HB_3.out.trans hb4)
                      clear hs4 hb4
                      go_wp2_with fail
                      have h5 := number_any w.heap.size w.heap.size t out _ HS4.out hol
                      rw [E5.out] at h5
                      refine h5.mono ?_
                      clear h5
                      rintro e x5 ⟨rfl, hs5, hb5⟩
                      have HS5 := Lib.hid hs5
                      have HB_5 := Lib.hid (HB_4.out.trans hb5)
                      clear hs5 hb5
                      go_wp2_with fail
                      have h6 := mname_any w.heap.size w.heap.size t out _ HS5.out hol
                      rw [E6.out] at h6
                      refine h6.mono ?_
                      clear h6
                      rintro e y ⟨rfl, hsy, hby⟩
                      have HSy := Lib.hid hsy
                      have HBy := Lib.hid (HB_5.out.trans hby)
                      clear hsy hby
                      go_wp2_with fail
                      refine (blanks_any w.heap.size w.heap.size _ _ _ HSy.out).mono ?_
                      rintro e z ⟨rfl, hsz, hbz⟩
                      have HSz := Lib.hid hsz
                      have HBz := Lib.hid (HBy.out.trans hbz)
                      clear hsz hbz
                      go_wp2
                      go_roundw
                      case rel => exact ⟨_, _, k, HSz, HBz, by have := blankF_size ((t.extract n t.size).size + 1) (t.extract n t.size); simp at this ⊢; omega, Lib.hid ⟨by rw [HK.out.1, HLF.out, HT.out], by have := blankF_size ((t.extract n t.size).size + 1) (t.extract n t.size); have := HK.out.2; simp at *; omega⟩⟩
                      case measure =>
                        rw [scanLeft_of HSz.out.cell, scanLeft_of HCT.out]
                        have := blankF_size ((t.extract n t.size).size + 1) (t.extract n t.size)
                        simp at this ⊢
                        omega
                    | none =>
                      cases e7 : wordT t with
                      | some r =>
                        obtain ⟨kd, tt, n⟩ := r
                        have HT := Lib.hid (show tokT t = some (kd, tt, n) by unfold tokT; simp only [e0, e1, e2, e3, e4, e5, e6, e7])
                        have hn := tokT_pos HT.out
                        have E0 := Lib.hid e0
                        have E1 := Lib.hid e1
                        have E2 := Lib.hid e2
                        have E3 := Lib.hid e3
                        have E4 := Lib.hid e4
                        have E5 := Lib.hid e5
                        have E6 := Lib.hid e6
                        have E7 := Lib.hid e7
                        clear e0 e1 e2 e3 e4 e5 e6 e7
                        go_wp2_with fail
                        have h0 := iri_any w.heap.size w.heap.size t out _ HSr.out hol
                        rw [E0.out] at h0
                        refine h0.mono ?_
                        clear h0
                        rintro e x0 ⟨rfl, hs0, hb0⟩
                        have HS0 := Lib.hid hs0
                        have HB_0 := Lib.hid (HBr.out.trans hb0)
                        clear hs0 hb0
                        go_wp2_with fail
                        have h1 := blank_any w.heap.size w.heap.size t out _ HS0.out hol
                        rw [E1.out] at h1
                        refine h1.mono ?_
                        clear h1
                        rintro e x1 ⟨rfl, hs1, hb1⟩
                        have HS1 := Lib.hid hs1
                        have HB_1 := Lib.hid (HB_0.out.trans hb1)
                        clear hs1 hb1
                        go_wp2_with fail
                        have h2 := variable_any w.heap.size w.heap.size t out _ HS1.out hol
                        rw [E2.out] at h2
                        refine h2.mono ?_
                        clear h2
                        rintro e x2 ⟨rfl, hs2, hb2⟩
                        have HS2 := Lib.hid hs2
                        have HB_2 := Lib.hid (HB_1.out.trans hb2)
                        clear hs2 hb2
                        go_wp2_with fail
                        have h3 := text_any w.heap.size w.heap.size t out _ HS2.out hol
                        rw [E3.out] at h3
                        refine h3.mono ?_
                        clear h3
                        rintro e x3 ⟨rfl, hs3, hb3⟩
                        have HS3 := Lib.hid hs3
                        have HB_3 := Lib.hid (HB_2.out.trans hb3)
                        clear hs3 hb3
                        go_wp2_with fail
                        have h4 := language_any w.heap.size w.heap.size t out _ HS3.out hol
                        rw [E4.out] at h4
                        refine h4.mono ?_
                        clear h4
                        rintro e x4 ⟨rfl, hs4, hb4⟩
                        have HS4 := Lib.hid hs4
                        have HB_4 := Lib.hid (HB_3.out.trans hb4)
                        clear hs4 hb4
                        go_wp2_with fail
                        have h5 := number_any w.heap.size w.heap.size t out _ HS4.out hol
                        rw [E5.out] at h5
                        refine h5.mono ?_
                        clear h5
                        rintro e x5 ⟨rfl, hs5, hb5⟩
                        have HS5 := Lib.hid hs5
                        have HB_5 := Lib.hid (HB_4.out.trans hb5)
                        clear hs5 hb5
                        go_wp2_with fail
                        have h6 := mname_any w.heap.size w.heap.size t out _ HS5.out hol
                        rw [E6.out] at h6
                        refine h6.mono ?_
                        clear h6
                        rintro e x6 ⟨rfl, hs6, hb6⟩
                        have HS6 := Lib.hid hs6
                        have HB_6 := Lib.hid (HB_5.out.trans hb6)
                        clear hs6 hb6
                        go_wp2_with fail
                        have h7 := word_any w.heap.size w.heap.size t out _ HS6.out hol
                        rw [E7.out] at h7
                        refine h7.mono ?_
                        clear h7
                        rintro e y ⟨rfl, hsy, hby⟩
                        have HSy := Lib.hid hsy
                        have HBy := Lib.hid (HB_6.out.trans hby)
                        clear hsy hby
                        go_wp2_with fail
                        refine (blanks_any w.heap.size w.heap.size _ _ _ HSy.out).mono ?_
                        rintro e z ⟨rfl, hsz, hbz⟩
                        have HSz := Lib.hid hsz
                        have HBz := Lib.hid (HBy.out.trans hbz)
                        clear hsz hbz
                        go_wp2
                        go_roundw
                        case rel => exact ⟨_, _, k, HSz, HBz, by have := blankF_size ((t.extract n t.size).size + 1) (t.extract n t.size); simp at this ⊢; omega, Lib.hid ⟨by rw [HK.out.1, HLF.out, HT.out], by have := blankF_size ((t.extract n t.size).size + 1) (t.extract n t.size); have := HK.out.2; simp at *; omega⟩⟩
                        case measure =>
                          rw [scanLeft_of HSz.out.cell, scanLeft_of HCT.out]
                          have := blankF_size ((t.extract n t.size).size + 1) (t.extract n t.size)
                          simp at this ⊢
                          omega
                      | none =>
                        cases e8 : signT t with
                        | some r =>
                          obtain ⟨kd, tt, n⟩ := r
                          have HT := Lib.hid (show tokT t = some (kd, tt, n) by unfold tokT; simp only [e0, e1, e2, e3, e4, e5, e6, e7, e8])
                          have hn := tokT_pos HT.out
                          have E0 := Lib.hid e0
                          have E1 := Lib.hid e1
                          have E2 := Lib.hid e2
                          have E3 := Lib.hid e3
                          have E4 := Lib.hid e4
                          have E5 := Lib.hid e5
                          have E6 := Lib.hid e6
                          have E7 := Lib.hid e7
                          have E8 := Lib.hid e8
                          clear e0 e1 e2 e3 e4 e5 e6 e7 e8
                          go_wp2_with fail
                          have h0 := iri_any w.heap.size w.heap.size t out _ HSr.out hol
                          rw [E0.out] at h0
                          refine h0.mono ?_
                          clear h0
                          rintro e x0 ⟨rfl, hs0, hb0⟩
                          have HS0 := Lib.hid hs0
                          have HB_0 := Lib.hid (HBr.out.trans hb0)
                          clear hs0 hb0
                          go_wp2_with fail
                          have h1 := blank_any w.heap.size w.heap.size t out _ HS0.out hol
                          rw [E1.out] at h1
                          refine h1.mono ?_
                          clear h1
                          rintro e x1 ⟨rfl, hs1, hb1⟩
                          have HS1 := Lib.hid hs1
                          have HB_1 := Lib.hid (HB_0.out.trans hb1)
                          clear hs1 hb1
                          go_wp2_with fail
                          have h2 := variable_any w.heap.size w.heap.size t out _ HS1.out hol
                          rw [E2.out] at h2
                          refine h2.mono ?_
                          clear h2
                          rintro e x2 ⟨rfl, hs2, hb2⟩
                          have HS2 := Lib.hid hs2
                          have HB_2 := Lib.hid (HB_1.out.trans hb2)
                          clear hs2 hb2
                          go_wp2_with fail
                          have h3 := text_any w.heap.size w.heap.size t out _ HS2.out hol
                          rw [E3.out] at h3
                          refine h3.mono ?_
                          clear h3
                          rintro e x3 ⟨rfl, hs3, hb3⟩
                          have HS3 := Lib.hid hs3
                          have HB_3 := Lib.hid (HB_2.out.trans hb3)
                          clear hs3 hb3
                          go_wp2_with fail
                          have h4 := language_any w.heap.size w.heap.size t out _ HS3.out hol
                          rw [E4.out] at h4
                          refine h4.mono ?_
                          clear h4
                          rintro e x4 ⟨rfl, hs4, hb4⟩
                          have HS4 := Lib.hid hs4
                          have HB_4 := Lib.hid (HB_3.out.trans hb4)
                          clear hs4 hb4
                          go_wp2_with fail
                          have h5 := number_any w.heap.size w.heap.size t out _ HS4.out hol
                          rw [E5.out] at h5
                          refine h5.mono ?_
                          clear h5
                          rintro e x5 ⟨rfl, hs5, hb5⟩
                          have HS5 := Lib.hid hs5
                          have HB_5 := Lib.hid (HB_4.out.trans hb5)
                          clear hs5 hb5
                          go_wp2_with fail
                          have h6 := mname_any w.heap.size w.heap.size t out _ HS5.out hol
                          rw [E6.out] at h6
                          refine h6.mono ?_
                          clear h6
                          rintro e x6 ⟨rfl, hs6, hb6⟩
                          have HS6 := Lib.hid hs6
                          have HB_6 := Lib.hid (HB_5.out.trans hb6)
                          clear hs6 hb6
                          go_wp2_with fail
                          have h7 := word_any w.heap.size w.heap.size t out _ HS6.out hol
                          rw [E7.out] at h7
                          refine h7.mono ?_
                          clear h7
                          rintro e x7 ⟨rfl, hs7, hb7⟩
                          have HS7 := Lib.hid hs7
                          have HB_7 := Lib.hid (HB_6.out.trans hb7)
                          clear hs7 hb7
                          go_wp2_with fail
                          have h8 := sign_any w.heap.size w.heap.size t out _ HS7.out hol hpos
                          rw [E8.out] at h8
                          refine h8.mono ?_
                          clear h8
                          rintro e y ⟨rfl, hsy, hby⟩
                          have HSy := Lib.hid hsy
                          have HBy := Lib.hid (HB_7.out.trans hby)
                          clear hsy hby
                          go_wp2_with fail
                          refine (blanks_any w.heap.size w.heap.size _ _ _ HSy.out).mono ?_
                          rintro e z ⟨rfl, hsz, hbz⟩
                          have HSz := Lib.hid hsz
                          have HBz := Lib.hid (HBy.out.trans hbz)
                          clear hsz hbz
                          go_wp2
                          go_roundw
                          case rel => exact ⟨_, _, k, HSz, HBz, by have := blankF_size ((t.extract n t.size).size + 1) (t.extract n t.size); simp at this ⊢; omega, Lib.hid ⟨by rw [HK.out.1, HLF.out, HT.out], by have := blankF_size ((t.extract n t.size).size + 1) (t.extract n t.size); have := HK.out.2; simp at *; omega⟩⟩
                          case measure =>
                            rw [scanLeft_of HSz.out.cell, scanLeft_of HCT.out]
                            have := blankF_size ((t.extract n t.size).size + 1) (t.extract n t.size)
                            simp at this ⊢
                            omega
                        | none =>
                          have HT := Lib.hid (show tokT t = none by unfold tokT; simp only [e0, e1, e2, e3, e4, e5, e6, e7, e8])
                          have HF := Lib.hid (show lexT s = ([], 6) by rw [HZ.out, HK.out.1, HLF.out, HT.out])
                          have E0 := Lib.hid e0
                          have E1 := Lib.hid e1
                          have E2 := Lib.hid e2
                          have E3 := Lib.hid e3
                          have E4 := Lib.hid e4
                          have E5 := Lib.hid e5
                          have E6 := Lib.hid e6
                          have E7 := Lib.hid e7
                          have E8 := Lib.hid e8
                          clear e0 e1 e2 e3 e4 e5 e6 e7 e8
                          go_wp2_with fail
                          have h0 := iri_any w.heap.size w.heap.size t out _ HSr.out hol
                          rw [E0.out] at h0
                          refine h0.mono ?_
                          clear h0
                          rintro e x0 ⟨rfl, hs0, hb0⟩
                          have HS0 := Lib.hid hs0
                          have HB_0 := Lib.hid (HBr.out.trans hb0)
                          clear hs0 hb0
                          go_wp2_with fail
                          have h1 := blank_any w.heap.size w.heap.size t out _ HS0.out hol
                          rw [E1.out] at h1
                          refine h1.mono ?_
                          clear h1
                          rintro e x1 ⟨rfl, hs1, hb1⟩
                          have HS1 := Lib.hid hs1
                          have HB_1 := Lib.hid (HB_0.out.trans hb1)
                          clear hs1 hb1
                          go_wp2_with fail
                          have h2 := variable_any w.heap.size w.heap.size t out _ HS1.out hol
                          rw [E2.out] at h2
                          refine h2.mono ?_
                          clear h2
                          rintro e x2 ⟨rfl, hs2, hb2⟩
                          have HS2 := Lib.hid hs2
                          have HB_2 := Lib.hid (HB_1.out.trans hb2)
                          clear hs2 hb2
                          go_wp2_with fail
                          have h3 := text_any w.heap.size w.heap.size t out _ HS2.out hol
                          rw [E3.out] at h3
                          refine h3.mono ?_
                          clear h3
                          rintro e x3 ⟨rfl, hs3, hb3⟩
                          have HS3 := Lib.hid hs3
                          have HB_3 := Lib.hid (HB_2.out.trans hb3)
                          clear hs3 hb3
                          go_wp2_with fail
                          have h4 := language_any w.heap.size w.heap.size t out _ HS3.out hol
                          rw [E4.out] at h4
                          refine h4.mono ?_
                          clear h4
                          rintro e x4 ⟨rfl, hs4, hb4⟩
                          have HS4 := Lib.hid hs4
                          have HB_4 := Lib.hid (HB_3.out.trans hb4)
                          clear hs4 hb4
                          go_wp2_with fail
                          have h5 := number_any w.heap.size w.heap.size t out _ HS4.out hol
                          rw [E5.out] at h5
                          refine h5.mono ?_
                          clear h5
                          rintro e x5 ⟨rfl, hs5, hb5⟩
                          have HS5 := Lib.hid hs5
                          have HB_5 := Lib.hid (HB_4.out.trans hb5)
                          clear hs5 hb5
                          go_wp2_with fail
                          have h6 := mname_any w.heap.size w.heap.size t out _ HS5.out hol
                          rw [E6.out] at h6
                          refine h6.mono ?_
                          clear h6
                          rintro e x6 ⟨rfl, hs6, hb6⟩
                          have HS6 := Lib.hid hs6
                          have HB_6 := Lib.hid (HB_5.out.trans hb6)
                          clear hs6 hb6
                          go_wp2_with fail
                          have h7 := word_any w.heap.size w.heap.size t out _ HS6.out hol
                          rw [E7.out] at h7
                          refine h7.mono ?_
                          clear h7
                          rintro e x7 ⟨rfl, hs7, hb7⟩
                          have HS7 := Lib.hid hs7
                          have HB_7 := Lib.hid (HB_6.out.trans hb7)
                          clear hs7 hb7
                          go_wp2_with fail
                          have h8 := sign_any w.heap.size w.heap.size t out _ HS7.out hol hpos
                          rw [E8.out] at h8
                          refine h8.mono ?_
                          clear h8
                          rintro e x8 ⟨rfl, hs8, hb8⟩
                          have HS8 := Lib.hid hs8
                          have HB_8 := Lib.hid (HB_7.out.trans hb8)
                          clear hs8 hb8
                          go_wp2
                          go_ret2
                          rw [HF.out]
                          exact ⟨_, rfl, own_nil _ _ _ _, HB_8.out⟩
end Go.Proofs.YtpgoemlnjocmhaaDoor.Lex
