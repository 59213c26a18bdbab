/-
  A part of the proof of LexTokens (whatever the input, the law returns true and the input reads as it did): letters and digits. Conditions stand at each theorem.
-/
import Derived.Test.YtpgoemlnjocmhaaDoorLexA
import Derived.Test.YtpgoemlnjocmhaaDoorShelf
namespace Go.Proofs.YtpgoemlnjocmhaaDoor.Lex
open Go.RowKit Go.Proofs.YtpgoemlnjocmhaaDoorW.PrintWords
set_option linter.unusedVariables false
set_option linter.unusedSimpArgs false

def letterB (c : Int) : Bool := (decide (97 ≤ c) && decide (c ≤ 122)) || (decide (65 ≤ c) && decide (c ≤ 90))
def digitB (c : Int) : Bool := decide (48 ≤ c) && decide (c ≤ 57)
def nameB (c : Int) : Bool := letterB c || digitB c || c == 95
def notNlB (c : Int) : Bool := c != 10
def noSign : List UInt8 := [60, 62, 34, 123, 125, 124, 94, 92, 96]
def signB (c : Int) : Bool := decide (32 < c) && decide (Lib.indexByte noSign c.toNat.toUInt8 < 0)
def lowB (c : Int) : Bool := decide (97 ≤ c) && decide (c ≤ 122)
def lowdB (c : Int) : Bool := lowB c || c == 45
def ndB (c : Int) : Bool := nameB c || c == 45
def nddB (c : Int) : Bool := nameB c || c == 45 || c == 46
def escB (c : Int) : Int := if c = 116 then 9 else if c = 110 then 10 else if c = 114 then 13 else if c = 34 ∨ c = 39 ∨ c = 92 then c else 0

set_option maxHeartbeats 400000 in
theorem letter_any (c : Int) (w : World) : Calls Tryd.prog 49 #[.int .i32 c] w fun e w' => e = .returned (.bool (letterB c)) ∧ w = w' := by
  by_cases h1 : 97 ≤ c <;> by_cases h2 : c ≤ 122 <;> by_cases h3 : 65 ≤ c <;> by_cases h4 : c ≤ 90 <;> first
    | (exfalso; omega)
    | (go_enter Tryd.func49, Tryd.ntmps49
       go_wp2
       go_ret
       exact ⟨by simp [letterB, *], rfl⟩)
set_option maxHeartbeats 400000 in
theorem digit_any (c : Int) (w : World) : Calls Tryd.prog 53 #[.int .i32 c] w fun e w' => e = .returned (.bool (digitB c)) ∧ w = w' := by
  by_cases h1 : 48 ≤ c <;> by_cases h2 : c ≤ 57 <;> first
    | (exfalso; omega)
    | (go_enter Tryd.func53, Tryd.ntmps53
       go_wp2
       go_ret
       exact ⟨by simp [digitB, *], rfl⟩)
theorem calls_as {P : Program} {f : Nat} {al : Array Value} {w : World} {b b' : Bool} (h : Calls P f al w fun e w' => e = .returned (.bool b) ∧ w = w') (hb : b = b') : Calls P f al w fun e w' => e = .returned (.bool b') ∧ w = w' := hb ▸ h
set_option maxHeartbeats 400000 in
theorem name_any (c : Int) (w : World) : Calls Tryd.prog 48 #[.int .i32 c] w fun e w' => e = .returned (.bool (nameB c)) ∧ w = w' := by
  have h1 := letter_any c
  have h2 := digit_any c
  unfold nameB
  cases e1 : letterB c <;> cases e2 : digitB c <;> rw [e1] at h1 <;> rw [e2] at h2 <;>
   (have H1 := Lib.hid h1; have H2 := Lib.hid h2; clear e1 e2 h1 h2
    go_enter Tryd.func48, Tryd.ntmps48
    go_wp2_with (first | ((with_reducible refine (H1.out _).mono ?_); rintro e w' ⟨rfl, rfl⟩) | ((with_reducible refine (H2.out _).mono ?_); rintro e w' ⟨rfl, rfl⟩))
    go_ret
    exact ⟨by simp, rfl⟩)
set_option maxHeartbeats 400000 in
theorem escaped_any (c : Int) (w : World) (h0 : 0 ≤ c) (h1 : c ≤ 255) : Calls Tryd.prog 50 #[.int .i32 c] w fun e w' => e = .returned (.int .u8 (escB c)) ∧ w = w' := by
  by_cases e1 : c = 116
  · subst e1; go_enter Tryd.func50, Tryd.ntmps50; go_wp2; go_ret; exact ⟨by simp [escB], rfl⟩
  by_cases e2 : c = 110
  · subst e2; go_enter Tryd.func50, Tryd.ntmps50; go_wp2; go_ret; exact ⟨by simp [escB], rfl⟩
  by_cases e3 : c = 114
  · subst e3; go_enter Tryd.func50, Tryd.ntmps50; go_wp2; go_ret; exact ⟨by simp [escB], rfl⟩
  by_cases e4 : c = 34
  · subst e4; go_enter Tryd.func50, Tryd.ntmps50; go_wp2; go_ret; exact ⟨by simp [escB], rfl⟩
  by_cases e5 : c = 39
  · subst e5; go_enter Tryd.func50, Tryd.ntmps50; go_wp2; go_ret; exact ⟨by simp [escB], rfl⟩
  by_cases e6 : c = 92
  · subst e6; go_enter Tryd.func50, Tryd.ntmps50; go_wp2; go_ret; exact ⟨by simp [escB], rfl⟩
  have b1 : (c == 116) = false := by simpa using e1
  have b2 : (c == 110) = false := by simpa using e2
  have b3 : (c == 114) = false := by simpa using e3
  have b4 : (c == 34) = false := by simpa using e4
  have b5 : (c == 39) = false := by simpa using e5
  have b6 : (c == 92) = false := by simpa using e6
  have hz : Hid (escB c = 0) := Lib.hid (by simp [escB, *])
  clear e1 e2 e3 e4 e5 e6
  go_enter Tryd.func50, Tryd.ntmps50; go_wp2; go_ret; exact ⟨by rw [hz.out]; rfl, rfl⟩

/-! The inner functions. -/
set_option maxHeartbeats 400000 in
theorem blanks1_any (c : Int) (w : World) : Calls Tryd.prog 43 #[.int .i32 c] w fun e w' => e = .returned (.bool (notNlB c)) ∧ w = w' := by
  go_enter Tryd.func43, Tryd.ntmps43
  go_wp2
  go_ret
  exact ⟨rfl, rfl⟩
set_option maxHeartbeats 400000 in
theorem iri1_any (c : Int) (w : World) (h0 : 0 ≤ c) (h1 : c ≤ 255) : Calls Tryd.prog 44 #[.int .i32 c] w fun e w' => e = .returned (.bool (signB c)) ∧ w = w' := by
  unfold signB
  by_cases h2 : 32 < c
  · go_enter Tryd.func44, Tryd.ntmps44
    go_wp2_with ((with_reducible refine (Tryd.strings_IndexByte _ _ _).mono ?_); rintro e w' ⟨rfl, rfl⟩)
    go_ret
    exact ⟨by simp [noSign, h2], rfl⟩
  · go_enter Tryd.func44, Tryd.ntmps44
    go_wp2
    go_ret
    exact ⟨by rw [show decide (32 < c) = false from decide_eq_false (by omega)]; rfl, rfl⟩
set_option maxHeartbeats 400000 in
theorem language1_any (c : Int) (w : World) : Calls Tryd.prog 51 #[.int .i32 c] w fun e w' => e = .returned (.bool (lowB c)) ∧ w = w' := by
  by_cases h1 : 97 ≤ c <;> by_cases h2 : c ≤ 122 <;> first
    | (exfalso; omega)
    | (go_enter Tryd.func51, Tryd.ntmps51
       go_wp2
       go_ret
       exact ⟨by simp [lowB, *], rfl⟩)
set_option maxHeartbeats 400000 in
theorem name1_any (c : Int) (w : World) : Calls Tryd.prog 54 #[.int .i32 c] w fun e w' => e = .returned (.bool (ndB c)) ∧ w = w' := by
  have h1 := name_any c
  unfold ndB
  cases e1 : nameB c <;> rw [e1] at h1 <;>
   (have H1 := Lib.hid h1; clear e1 h1
    go_enter Tryd.func54, Tryd.ntmps54
    go_wp2_with ((with_reducible refine (H1.out _).mono ?_); rintro e w' ⟨rfl, rfl⟩)
    go_ret
    exact ⟨by simp, rfl⟩)
set_option maxHeartbeats 400000 in
theorem name2_any (c : Int) (w : World) : Calls Tryd.prog 55 #[.int .i32 c] w fun e w' => e = .returned (.bool (nddB c)) ∧ w = w' := by
  have h1 := name_any c
  unfold nddB
  cases e1 : nameB c <;> rw [e1] at h1 <;> cases e2 : (c == 45) <;>
   (have H1 := Lib.hid h1; clear e1 h1
    go_enter Tryd.func55, Tryd.ntmps55
    go_wp2_with ((with_reducible refine (H1.out _).mono ?_); rintro e w' ⟨rfl, rfl⟩)
    go_ret
    exact ⟨by simp, rfl⟩)
set_option maxHeartbeats 400000 in
theorem language2_any (c : Int) (g : Nat) (w : World) (hc : w.cell? ⟨g, 0, none⟩ = some (.func (.func 51) #[] #[])) : Calls Tryd.prog 52 (#[.int .i32 c] ++ #[.pointer (some ⟨g, 0, none⟩)]) w fun e w' => e = .returned (.bool (lowdB c)) ∧ w = w' := by
  have h1 := language1_any c
  unfold lowdB
  cases e1 : lowB c <;> rw [e1] at h1 <;>
   (have H1 := Lib.hid h1; clear e1 h1
    go_enter Tryd.func52, Tryd.ntmps52
    go_wp2_with ((with_reducible refine (H1.out _).mono ?_); rintro e w' ⟨rfl, rfl⟩)
    go_ret
    exact ⟨by simp, rfl⟩)

set_option maxHeartbeats 400000 in
theorem at_any (g : Nat) (s : ByteArray) (w : World) (i : Int) (hc : w.cell? ⟨g, 0, none⟩ = some (.string s)) (hs : s.size ≤ 140737488351232) (h0 : 0 ≤ i) :
    Calls Tryd.prog 46 #[.pointer (some ⟨g, 0, none⟩), .int .i64 i] w fun e w' => e = .returned (.int .i32 (bt s i)) ∧ w = w' := by
  by_cases hlt : i < s.size
  · have hx5 := bt_at s i
    have hb := bt_range s i
    have hb1 := hb.1
    have hb2 := hb.2
    clear hb
    go_enter Tryd.func46, Tryd.ntmps46
    go_wp2
    go_ret
    exact ⟨rfl, rfl⟩
  · have hz : Hid (bt s i = 0) := Lib.hid (by unfold bt; rw [dif_neg (by omega)])
    go_enter Tryd.func46, Tryd.ntmps46
    go_wp2
    go_ret
    exact ⟨by rw [hz.out]; rfl, rfl⟩
end Go.Proofs.YtpgoemlnjocmhaaDoor.Lex
