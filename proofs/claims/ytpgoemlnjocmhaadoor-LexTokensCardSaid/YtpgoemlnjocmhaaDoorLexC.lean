/-
  A part of the proof of LexTokens (whatever the input, the law returns true and the input reads as it did): iri, blank node, word, variable. Conditions stand at each theorem.
-/
import Derived.Test.YtpgoemlnjocmhaaDoorLexB
namespace Go.Proofs.YtpgoemlnjocmhaaDoor.Lex
open Go.RowKit Go.Proofs.YtpgoemlnjocmhaaDoorW.PrintWords
set_option linter.unusedVariables false
set_option linter.unusedSimpArgs false

theorem cf (n : Nat) (h : ∀ (al : Array Value) (w : World), (callFunc n al).run Tryd.prog w = .ok (.enter n al) w) : ∀ (al : Array Value) (w : World), (callFunc n al).run Tryd.prog w = .ok (.enter n al) w := h
theorem cf_blanks1 : ∀ (al : Array Value) (w : World), (callFunc 43 al).run Tryd.prog w = .ok (.enter 43 al) w := fun _ _ => by kernel_rfl
theorem cf_iri1 : ∀ (al : Array Value) (w : World), (callFunc 44 al).run Tryd.prog w = .ok (.enter 44 al) w := fun _ _ => by kernel_rfl
theorem cf_name : ∀ (al : Array Value) (w : World), (callFunc 48 al).run Tryd.prog w = .ok (.enter 48 al) w := fun _ _ => by kernel_rfl
theorem cf_digit : ∀ (al : Array Value) (w : World), (callFunc 53 al).run Tryd.prog w = .ok (.enter 53 al) w := fun _ _ => by kernel_rfl
theorem cf_language2 : ∀ (al : Array Value) (w : World), (callFunc 52 al).run Tryd.prog w = .ok (.enter 52 al) w := fun _ _ => by kernel_rfl
theorem cf_name1 : ∀ (al : Array Value) (w : World), (callFunc 54 al).run Tryd.prog w = .ok (.enter 54 al) w := fun _ _ => by kernel_rfl
theorem cf_name2 : ∀ (al : Array Value) (w : World), (callFunc 55 al).run Tryd.prog w = .ok (.enter 55 al) w := fun _ _ => by kernel_rfl

/-- What a reader of one token does: a kind, a text, how many bytes are gone; or nothing. -/
def Res (o : Option (Int × ByteArray × Nat)) (w : World) (g B : Nat) (s : ByteArray) (out : List Tok) (e : Ending) (w' : World) : Prop :=
  match o with
  | none => e = .returned (.bool false) ∧ Scan w' g B s out ∧ Below B w w'
  | some (k, t, n) => e = .returned (.bool true) ∧ Scan w' g B (s.extract n s.size) (out ++ [(k, t)]) ∧ Below B w w'
theorem Scan.cell {W : World} {g B : Nat} {s : ByteArray} {out : List Tok} (h : Scan W g B s out) : W.cell? ⟨g, 0, none⟩ = some (.string s) := by
  obtain ⟨v, hb, _⟩ := h
  rw [blk_cell hb 0]; rfl
theorem Scan.sz {W : World} {g B : Nat} {s : ByteArray} {out : List Tok} (h : Scan W g B s out) : s.size ≤ 140737488351232 := by
  obtain ⟨v, hb, _, _, h, _⟩ := h
  exact h
theorem res_none {w : World} {g B : Nat} {s : ByteArray} {out : List Tok} (h : Scan w g B s out) : Res none w g B s out (.returned (.bool false)) w := ⟨rfl, h, Below.refl _ _⟩

theorem bt_lt {s : ByteArray} {i : Nat} {c : Int} (h : bt s i = c) (hc : c ≠ 0) : i < s.size := by
  rcases Nat.lt_or_ge i s.size with h1 | h1
  · exact h1
  · unfold bt at h; rw [dif_neg (by omega)] at h; omega
theorem bt_lt' {s : ByteArray} {i : Nat} {p : Int → Bool} (h : p (bt s i) = true) (hc : p 0 = false) : i < s.size := by
  rcases Nat.lt_or_ge i s.size with h1 | h1
  · exact h1
  · unfold bt at h; rw [dif_neg (by omega), hc] at h; exact absurd h (by simp)
theorem tok' (g B : Nat) (s : ByteArray) (out : List Tok) (w : World) (kind : Int) (n : Int) (m : Nat) (t : ByteArray) (hS : Scan w g B s out) (ho : out.length < 4000) (hm : n = (m : Int)) (hn : m ≤ s.size) :
    Calls Tryd.prog 47 #[.pointer (some ⟨g, 0, none⟩), .int .i64 kind, .string t, .int .i64 n] w fun e w' => e = .returned (.bool true) ∧ Scan w' g B (s.extract m s.size) (out ++ [(kind, t)]) ∧ Below B w w' := by
  subst hm
  have := token_any g B s out w kind m t hS (by omega) (by omega) ho
  simpa using this
theorem res_tok {k : Int} {t : ByteArray} {n : Nat} {w w' : World} {g B : Nat} {s : ByteArray} {out : List Tok} (h2 : Scan w' g B (s.extract n s.size) (out ++ [(k, t)])) (h3 : Below B w w') : Res (some (k, t, n)) w g B s out (.returned (.bool true)) w' := ⟨rfl, h2, h3⟩

/-- A TIri. -/
def iriT (s : ByteArray) : Option (Int × ByteArray × Nat) :=
  if bt s 0 = 60 ∧ bt s ((1 + cnt signB s 1 : Nat) : Int) = 62 then some (1, s.extract 1 (1 + cnt signB s 1), cnt signB s 1 + 2) else none
set_option maxHeartbeats 800000 in
theorem iri_any (g B : Nat) (s : ByteArray) (out : List Tok) (w : World) (hS : Scan w g B s out) (ho : out.length < 4000) :
    Calls Tryd.prog 20 #[.pointer (some ⟨g, 0, none⟩)] w (Res (iriT s) w g B s out) := by
  have hc := hS.cell
  have hs := hS.sz
  have hrow := row_any g s w 1 44 #[] signB hc hs (by omega) (by omega) cf_iri1 (fun c h0 h1 => iri1_any c w h0 h1)
  have hle := cnt_le signB s 1
  have hat0 := at_any g s w 0 hc hs (by omega)
  unfold iriT
  simp only [show (1 : Int).toNat = 1 from rfl] at hrow
  generalize cnt signB s 1 = n at *
  have hat1 := at_any g s w (1 + n : Nat) hc hs (by omega)
  have hlen : bt s (1 + n : Nat) = 62 → 1 + n < s.size := fun h => bt_lt h (by omega)
  simp only [Int.natCast_add, Int.natCast_one] at hat1
  have HR := Lib.hid hrow
  have HL := Lib.hid hlen
  have HS := Lib.hid hS
  clear hrow hlen hS
  by_cases e0 : bt s 0 = 60
  · by_cases e1 : bt s (1 + n : Nat) = 62
    · rw [if_pos ⟨e0, e1⟩]
      rw [e0] at hat0
      have hl := HL.out e1
      simp only [Int.natCast_add, Int.natCast_one] at e1
      rw [e1] at hat1
      have HT := Lib.hid (tok' g B s out w 1 (n + 2) (n + 2) (s.extract 1 (1 + n)) HS.out ho rfl (by omega))
      have H0 := Lib.hid hat0
      have H1 := Lib.hid hat1
      clear e0 e1 hat0 hat1
      go_enter Tryd.func20, Tryd.ntmps20
      go_wp2_with (first | ((with_reducible refine HR.out.mono ?_); rintro e w' ⟨rfl, rfl⟩) | ((with_reducible refine H0.out.mono ?_); rintro e w' ⟨rfl, rfl⟩) | ((with_reducible refine H1.out.mono ?_); rintro e w' ⟨rfl, rfl⟩) | ((with_reducible refine HT.out.mono ?_); rintro e w' ⟨rfl, h2, h3⟩))
      go_ret
      exact res_tok h2 h3
    · rw [if_neg (fun h => e1 h.2)]
      rw [e0] at hat0
      have H0 := Lib.hid hat0
      simp only [Int.natCast_add, Int.natCast_one] at e1
      have H1 := Lib.hid hat1
      have b1 : (bt s (1 + (n : Int)) == 62) = false := by simpa using e1
      clear e0 e1 hat0 hat1
      go_enter Tryd.func20, Tryd.ntmps20
      go_wp2_with (first | ((with_reducible refine HR.out.mono ?_); rintro e w' ⟨rfl, rfl⟩) | ((with_reducible refine H0.out.mono ?_); rintro e w' ⟨rfl, rfl⟩) | ((with_reducible refine H1.out.mono ?_); rintro e w' ⟨rfl, rfl⟩))
      go_ret
      exact res_none HS.out
  · rw [if_neg (fun h => e0 h.1)]
    have H0 := Lib.hid hat0
    have b0 : (bt s 0 == 60) = false := by simpa using e0
    clear e0 hat0 hat1
    go_enter Tryd.func20, Tryd.ntmps20
    go_wp2_with (first | ((with_reducible refine HR.out.mono ?_); rintro e w' ⟨rfl, rfl⟩) | ((with_reducible refine H0.out.mono ?_); rintro e w' ⟨rfl, rfl⟩))
    go_ret
    exact res_none HS.out

/-- A TBlank. -/
def blankT (s : ByteArray) : Option (Int × ByteArray × Nat) :=
  if Lib.hasPrefix s.data.toList [95, 58] = true ∧ 0 < cnt nameB s 2 then some (3, s.extract 2 (2 + cnt nameB s 2), 2 + cnt nameB s 2) else none
set_option maxHeartbeats 800000 in
theorem blank_any (g B : Nat) (s : ByteArray) (out : List Tok) (w : World) (hS : Scan w g B s out) (ho : out.length < 4000) :
    Calls Tryd.prog 21 #[.pointer (some ⟨g, 0, none⟩)] w (Res (blankT s) w g B s out) := by
  have hc := hS.cell
  have hs := hS.sz
  have hrow := row_any g s w 2 48 #[] nameB hc hs (by omega) (by omega) cf_name (fun c h0 h1 => name_any c w)
  have hle := cnt_le nameB s 2
  have hpre := Tryd.strings_HasPrefix s ⟨#[95, 58]⟩ w
  unfold blankT
  simp only [show (2 : Int).toNat = 2 from rfl] at hrow
  generalize cnt nameB s 2 = n at *
  have HR := Lib.hid hrow
  have HS := Lib.hid hS
  clear hrow hS
  cases e0 : Lib.hasPrefix s.data.toList [95, 58] with
  | true =>
    rw [e0] at hpre
    have HP := Lib.hid hpre
    by_cases e1 : 0 < n
    · rw [if_pos ⟨rfl, e1⟩]
      have HT := Lib.hid (tok' g B s out w 3 (2 + n) (2 + n) (s.extract 2 (2 + n)) HS.out ho rfl (by omega))
      clear e0 hpre
      go_enter Tryd.func21, Tryd.ntmps21
      go_wp2_with (first | ((with_reducible refine HR.out.mono ?_); rintro e w' ⟨rfl, rfl⟩) | ((with_reducible refine HP.out.mono ?_); rintro e w' ⟨rfl, rfl⟩) | ((with_reducible refine HT.out.mono ?_); rintro e w' ⟨rfl, h2, h3⟩))
      go_ret
      exact res_tok h2 h3
    · rw [if_neg (fun h => e1 h.2)]
      obtain rfl : n = 0 := by omega
      clear e0 hpre
      go_enter Tryd.func21, Tryd.ntmps21
      go_wp2_with (first | ((with_reducible refine HR.out.mono ?_); rintro e w' ⟨rfl, rfl⟩) | ((with_reducible refine HP.out.mono ?_); rintro e w' ⟨rfl, rfl⟩))
      go_ret
      exact res_none HS.out
  | false =>
    rw [e0] at hpre
    have HP := Lib.hid hpre
    rw [if_neg (fun h => absurd h.1 (by simp))]
    clear e0 hpre
    go_enter Tryd.func21, Tryd.ntmps21
    go_wp2_with (first | ((with_reducible refine HR.out.mono ?_); rintro e w' ⟨rfl, rfl⟩) | ((with_reducible refine HP.out.mono ?_); rintro e w' ⟨rfl, rfl⟩))
    go_ret
    exact res_none HS.out

/-- A TWord. -/
def wordT (s : ByteArray) : Option (Int × ByteArray × Nat) :=
  if letterB (bt s 0) = true then some (8, s.extract 0 (cnt nameB s 0), cnt nameB s 0) else none
set_option maxHeartbeats 800000 in
theorem word_any (g B : Nat) (s : ByteArray) (out : List Tok) (w : World) (hS : Scan w g B s out) (ho : out.length < 4000) :
    Calls Tryd.prog 27 #[.pointer (some ⟨g, 0, none⟩)] w (Res (wordT s) w g B s out) := by
  have hc := hS.cell
  have hs := hS.sz
  have hrow := row_any g s w 0 48 #[] nameB hc hs (by omega) (by omega) cf_name (fun c h0 h1 => name_any c w)
  have hle := cnt_le nameB s 0
  have hat0 := at_any g s w 0 hc hs (by omega)
  have hlet := letter_any (bt s 0) w
  unfold wordT
  simp only [show (0 : Int).toNat = 0 from rfl] at hrow
  generalize cnt nameB s 0 = n at *
  have HR := Lib.hid hrow
  have HS := Lib.hid hS
  have H0 := Lib.hid hat0
  clear hrow hS hat0
  cases e0 : letterB (bt s 0) with
  | true =>
    rw [e0] at hlet
    have HL := Lib.hid hlet
    rw [if_pos rfl]
    have HT := Lib.hid (tok' g B s out w 8 n n (s.extract 0 n) HS.out ho rfl (by omega))
    clear e0 hlet
    go_enter Tryd.func27, Tryd.ntmps27
    go_wp2_with (first | ((with_reducible refine HR.out.mono ?_); rintro e w' ⟨rfl, rfl⟩) | ((with_reducible refine H0.out.mono ?_); rintro e w' ⟨rfl, rfl⟩) | ((with_reducible refine HL.out.mono ?_); rintro e w' ⟨rfl, rfl⟩) | ((with_reducible refine HT.out.mono ?_); rintro e w' ⟨rfl, h2, h3⟩))
    go_ret
    exact res_tok h2 h3
  | false =>
    rw [e0] at hlet
    have HL := Lib.hid hlet
    rw [if_neg (by simp)]
    clear e0 hlet
    go_enter Tryd.func27, Tryd.ntmps27
    go_wp2_with (first | ((with_reducible refine H0.out.mono ?_); rintro e w' ⟨rfl, rfl⟩) | ((with_reducible refine HL.out.mono ?_); rintro e w' ⟨rfl, rfl⟩))
    go_ret
    exact res_none HS.out

/-- A TVar. -/
def varT (s : ByteArray) : Option (Int × ByteArray × Nat) :=
  if (bt s 0 = 63 ∨ bt s 0 = 36) ∧ letterB (bt s 1) = true then some (4, s.extract 1 (1 + cnt nameB s 1), 1 + cnt nameB s 1) else none
set_option maxHeartbeats 800000 in
theorem variable_any (g B : Nat) (s : ByteArray) (out : List Tok) (w : World) (hS : Scan w g B s out) (ho : out.length < 4000) :
    Calls Tryd.prog 22 #[.pointer (some ⟨g, 0, none⟩)] w (Res (varT s) w g B s out) := by
  have hc := hS.cell
  have hs := hS.sz
  have hrow := row_any g s w 1 48 #[] nameB hc hs (by omega) (by omega) cf_name (fun c h0 h1 => name_any c w)
  have hle := cnt_le nameB s 1
  have hat0 := at_any g s w 0 hc hs (by omega)
  have hat1 := at_any g s w 1 hc hs (by omega)
  have hlet := letter_any (bt s 1) w
  unfold varT
  simp only [show (1 : Int).toNat = 1 from rfl] at hrow
  have hlen : letterB (bt s 1) = true → 1 < s.size := fun h => bt_lt' (i := 1) h (by decide)
  generalize cnt nameB s 1 = n at *
  have HR := Lib.hid hrow
  have HS := Lib.hid hS
  have H1 := Lib.hid hat1
  have HL1 := Lib.hid hlen
  clear hrow hS hat1 hlen
  by_cases e0 : bt s 0 = 63 ∨ bt s 0 = 36
  · cases e1 : letterB (bt s 1) with
    | true =>
      rw [if_pos ⟨e0, rfl⟩]
      rw [e1] at hlet
      have HL := Lib.hid hlet
      have hl := HL1.out e1
      have HT := Lib.hid (tok' g B s out w 4 (1 + n) (1 + n) (s.extract 1 (1 + n)) HS.out ho rfl (by omega))
      clear e1 hlet
      rcases e0 with e0 | e0 <;>
       (rw [e0] at hat0
        have H0 := Lib.hid hat0
        clear e0 hat0
        go_enter Tryd.func22, Tryd.ntmps22
        go_wp2_with (first | ((with_reducible refine HR.out.mono ?_); rintro e w' ⟨rfl, rfl⟩) | ((with_reducible refine H0.out.mono ?_); rintro e w' ⟨rfl, rfl⟩) | ((with_reducible refine H1.out.mono ?_); rintro e w' ⟨rfl, rfl⟩) | ((with_reducible refine HL.out.mono ?_); rintro e w' ⟨rfl, rfl⟩) | ((with_reducible refine HT.out.mono ?_); rintro e w' ⟨rfl, h2, h3⟩))
        go_ret
        exact res_tok h2 h3)
    | false =>
      rw [if_neg (fun h => absurd h.2 (by simp))]
      rw [e1] at hlet
      have HL := Lib.hid hlet
      clear e1 hlet
      rcases e0 with e0 | e0 <;>
       (rw [e0] at hat0
        have H0 := Lib.hid hat0
        clear e0 hat0
        go_enter Tryd.func22, Tryd.ntmps22
        go_wp2_with (first | ((with_reducible refine HR.out.mono ?_); rintro e w' ⟨rfl, rfl⟩) | ((with_reducible refine H0.out.mono ?_); rintro e w' ⟨rfl, rfl⟩) | ((with_reducible refine H1.out.mono ?_); rintro e w' ⟨rfl, rfl⟩) | ((with_reducible refine HL.out.mono ?_); rintro e w' ⟨rfl, rfl⟩))
        go_ret
        exact res_none HS.out)
  · rw [if_neg (fun h => e0 h.1)]
    have b0 : (bt s 0 != 63) = true := by rw [bne_iff_ne]; exact fun h => e0 (.inl h)
    have b1 : (bt s 0 != 36) = true := by rw [bne_iff_ne]; exact fun h => e0 (.inr h)
    have H0 := Lib.hid hat0
    clear e0 hat0 hlet
    go_enter Tryd.func22, Tryd.ntmps22
    go_wp2_with (first | ((with_reducible refine H0.out.mono ?_); rintro e w' ⟨rfl, rfl⟩))
    go_ret
    exact res_none HS.out
end Go.Proofs.YtpgoemlnjocmhaaDoor.Lex
