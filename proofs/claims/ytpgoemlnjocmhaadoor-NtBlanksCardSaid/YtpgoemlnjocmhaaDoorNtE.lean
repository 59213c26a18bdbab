/-
  A part of the proof of NtBlanks (whatever the input, the law returns true and the input reads as it did): fine terms, and triples, are found fine. Conditions stand at each theorem.
-/
import Derived.Test.YtpgoemlnjocmhaaDoorNtD
namespace Go.Proofs.YtpgoemlnjocmhaaDoor.Nt
open Go.RowKit Go.Proofs.YtpgoemlnjocmhaaDoor.Lex
open Go.Proofs.YtpgoemlnjocmhaaDoorW.PrintWords hiding blk_lt blk_cell blk_frozen
set_option linter.unusedVariables false
set_option linter.unusedSimpArgs false

def lowC (c : Int) : Bool := decide (97 ≤ c) && decide (c ≤ 122)
set_option maxHeartbeats 400000 in
theorem tname_any (c : Int) (w : World) : Calls Tryd.prog 120 #[.int .u8 c] w fun e w' => e = .returned (.bool (nameC c)) ∧ w = w' := by
  by_cases h0 : c = 95
  · subst h0; go_enter Tryd.func120, Tryd.ntmps120; go_wp2; go_ret; exact ⟨by simp [nameC], rfl⟩
  have b0 : (c == 95) = false := by simpa using h0
  by_cases h1 : 97 ≤ c <;> by_cases h2 : c ≤ 122 <;> by_cases h3 : 65 ≤ c <;> by_cases h4 : c ≤ 90 <;> by_cases h5 : 48 ≤ c <;> by_cases h6 : c ≤ 57 <;> first
    | (exfalso; omega)
    | (go_enter Tryd.func120, Tryd.ntmps120
       go_wp2
       go_ret
       exact ⟨by simp [nameC, *], rfl⟩)
theorem nonempty {s : ByteArray} (h : 0 < s.size) : s.toList.isEmpty = false := by
  rw [Lib.toList_data]
  rcases hl : s.data.toList with _ | ⟨c, l⟩
  · have h2 : s.size = 0 := len_of hl
    omega
  · rfl
set_option maxHeartbeats 400000 in
theorem tref_ok (s : ByteArray) (w : World) (hs : s.size ≤ 16000) (h0 : 0 < s.size) (h : ∀ k : Nat, k < s.size → signB (bt s k) = true) :
    Calls Tryd.prog 110 #[.string s] w fun e w' => e = .returned (.bool true) ∧ w = w' := by
  have HH := Lib.hid h
  have b0 := nonempty h0
  clear h
  go_enter Tryd.func110, Tryd.ntmps110
  go_wp2
  go_loop [6] (fun v => ∃ i : Int, v = .int .i64 i ∧ 0 ≤ i ∧ i ≤ s.size) (fun v => s.size - (intOf v).toNat)
  case atStart => exact ⟨0, by simp, by omega, by omega⟩
  case round =>
    obtain ⟨i, rfl, p5, hi2⟩ := hrel
    by_cases hlt : i < s.size
    · have hx5 := bt_at s i
      have hp := HH.out i.toNat (by omega)
      rw [Int.toNat_of_nonneg p5] at hp
      have hbr := bt_range s i
      generalize hbb : bt s i = c at *
      unfold signB at hp
      simp only [Bool.and_eq_true, decide_eq_true_eq] at hp
      have hc32 : ¬ c ≤ 32 := by omega
      have hidx := fun W => Tryd.strings_IndexByte ⟨#[60, 62, 34, 123, 125, 124, 94, 92, 96]⟩ c W
      have hneg := hp.2
      rw [show (⟨#[60, 62, 34, 123, 125, 124, 94, 92, 96]⟩ : ByteArray).data.toList = noSign from rfl] at hidx
      generalize Lib.indexByte noSign c.toNat.toUInt8 = n at *
      have hb1 := hbr.1
      have hb2 := hbr.2
      have HI := Lib.hid hidx
      clear hbr hidx hbb hp
      have hn2 : ¬ 0 ≤ n := by omega
      go_wp2_with ((with_reducible refine (HI.out _).mono ?_); rintro e w' ⟨rfl, rfl⟩)
      go_round
      case rel => exact ⟨i+1, by go_num, by omega, by omega⟩
      case measure => simp [intOf]; omega
    · go_wp2
      go_ret
      exact ⟨by simp, rfl⟩
set_option maxHeartbeats 400000 in
theorem label_ok (s : ByteArray) (w : World) (hs : s.size ≤ 20) (h0 : 0 < s.size) (h : ∀ k : Nat, k < s.size → nameC (bt s k) = true) :
    Calls Tryd.prog 111 #[.string s] w fun e w' => e = .returned (.bool true) ∧ w = w' := by
  have HH := Lib.hid h
  have b0 := nonempty h0
  clear h
  go_enter Tryd.func111, Tryd.ntmps111
  go_wp2
  go_loop [6] (fun v => ∃ i : Int, v = .int .i64 i ∧ 0 ≤ i ∧ i ≤ s.size) (fun v => s.size - (intOf v).toNat)
  case atStart => exact ⟨0, by simp, by omega, by omega⟩
  case round =>
    obtain ⟨i, rfl, p5, hi2⟩ := hrel
    by_cases hlt : i < s.size
    · have hx5 := bt_at s i
      have hp := HH.out i.toNat (by omega)
      rw [Int.toNat_of_nonneg p5] at hp
      have hbr := bt_range s i
      have hn := tname_any (bt s i)
      rw [hp] at hn
      have HN := Lib.hid hn
      have hb1 := hbr.1
      have hb2 := hbr.2
      clear hbr hn hp
      go_wp2_with ((with_reducible refine (HN.out _).mono ?_); rintro e w' ⟨rfl, rfl⟩)
      go_round
      case rel => exact ⟨i+1, by go_num, by omega, by omega⟩
      case measure => simp [intOf]; omega
    · have h20 : (s.size : Int) ≤ 20 := by omega
      go_wp2
      go_ret
      exact ⟨by simp, rfl⟩
set_option maxHeartbeats 400000 in
theorem language_ok (s : ByteArray) (w : World) (hs : s.size ≤ 16000) (h : ∀ k : Nat, k < s.size → lowC (bt s k) = true) :
    Calls Tryd.prog 112 #[.string s] w fun e w' => e = .returned (.bool true) ∧ w = w' := by
  have HH := Lib.hid h
  clear h
  go_enter Tryd.func112, Tryd.ntmps112
  go_wp2
  go_loop [7] (fun v => ∃ i : Int, v = .int .i64 i ∧ 0 ≤ i ∧ i ≤ s.size) (fun v => s.size - (intOf v).toNat)
  case atStart => exact ⟨0, by simp, by omega, by omega⟩
  case round =>
    obtain ⟨i, rfl, p5, hi2⟩ := hrel
    by_cases hlt : i < s.size
    · have hx5 := bt_at s i
      have hp := HH.out i.toNat (by omega)
      rw [Int.toNat_of_nonneg p5] at hp
      unfold lowC at hp
      simp only [Bool.and_eq_true, decide_eq_true_eq] at hp
      have hb1 := hp.1
      have hb2 := hp.2
      clear hp
      go_wp2
      go_round
      case rel => exact ⟨i+1, by go_num, by omega, by omega⟩
      case measure => simp [intOf]; omega
    · go_wp2
      go_ret
      exact ⟨by simp, rfl⟩
/-- A fine term. -/
def T.fine (t : T) : Prop :=
  (t.k = 1 ∧ t.la = [] ∧ t.ty = [] ∧ t.s ≠ [] ∧ t.s.length ≤ 60 ∧ ∀ c ∈ t.s, signB (c.toNat : Int) = true) ∨
  (t.k = 2 ∧ t.la = [] ∧ t.ty = [] ∧ t.s ≠ [] ∧ t.s.length ≤ 20 ∧ ∀ c ∈ t.s, nameC (c.toNat : Int) = true) ∨
  (t.k = 3 ∧ t.s.length ≤ 60 ∧ ((t.la = [] ∧ t.ty = []) ∨ (t.la ≠ [] ∧ t.ty = [] ∧ t.la.length ≤ 8 ∧ ∀ c ∈ t.la, lowC (c.toNat : Int) = true) ∨ (t.la = [] ∧ t.ty ≠ [] ∧ t.ty.length ≤ 60 ∧ ∀ c ∈ t.ty, signB (c.toNat : Int) = true)))
theorem bt_of (l : Bs) (p : Int → Bool) (h : ∀ c ∈ l, p (c.toNat : Int) = true) : ∀ k : Nat, k < (⟨l.toArray⟩ : ByteArray).size → p (bt ⟨l.toArray⟩ k) = true := by
  intro k hk
  have hz := size_of l
  have hk2 : k < l.length := by omega
  have e : bt ⟨l.toArray⟩ (k : Int) = ((l[k]'hk2).toNat : Int) := by
    unfold bt
    rw [dif_pos (show (k : Int).toNat < (⟨l.toArray⟩ : ByteArray).size by omega)]
    rfl
  rw [e]
  exact h _ (List.getElem_mem hk2)
theorem empty_nil : (⟨#[]⟩ : ByteArray).toList.isEmpty = true := by rw [Lib.toList_data]; rfl
set_option maxHeartbeats 1600000 in
set_option maxRecDepth 100000 in
theorem check_ok (t : T) (w : World) (h : t.fine) :
    Calls Tryd.prog 98 #[t.val] w fun e w' => e = .returned (.int .i64 0) ∧ Below w.heap.size w w' := by
  have hnil := empty_nil
  rcases t with ⟨k, s, la, ty⟩
  unfold T.val tval
  rcases h with ⟨h1, h2, h3, h4, h5, h6⟩ | ⟨h1, h2, h3, h4, h5, h6⟩ | ⟨h1, h5, h⟩
  · simp only at h1 h2 h3 h4 h5 h6
    subst h1; subst h2; subst h3
    have hz := size_of s
    have hpos : 0 < s.length := List.length_pos_iff.2 h4
    have HR := Lib.hid (fun W => tref_ok ⟨s.toArray⟩ W (by omega) (by omega) (bt_of s signB h6))
    clear h4 h6
    generalize (⟨s.toArray⟩ : ByteArray) = b at *
    have hb60 : ¬ (60 : Int) < b.size := by omega
    go_enter Tryd.func98, Tryd.ntmps98
    go_wp2_with ((with_reducible refine (HR.out _).mono ?_); rintro e w' ⟨rfl, rfl⟩)
    go_ret
    exact ⟨rfl, (Below.refl _ _).alloc (Nat.le_refl _) _⟩
  · simp only at h1 h2 h3 h4 h5 h6
    subst h1; subst h2; subst h3
    have hz := size_of s
    have hpos : 0 < s.length := List.length_pos_iff.2 h4
    have HR := Lib.hid (fun W => label_ok ⟨s.toArray⟩ W (by omega) (by omega) (bt_of s nameC h6))
    clear h4 h6
    generalize (⟨s.toArray⟩ : ByteArray) = b at *
    have hb60 : ¬ (60 : Int) < b.size := by omega
    go_enter Tryd.func98, Tryd.ntmps98
    go_wp2_with ((with_reducible refine (HR.out _).mono ?_); rintro e w' ⟨rfl, rfl⟩)
    go_ret
    exact ⟨rfl, (Below.refl _ _).alloc (Nat.le_refl _) _⟩
  · simp only at h1 h5 h
    subst h1
    have hz := size_of s
    rcases h with ⟨h2, h3⟩ | ⟨h2, h3, h4, h6⟩ | ⟨h2, h3, h4, h6⟩
    · subst h2; subst h3
      have HR := Lib.hid (fun W => language_ok ⟨#[]⟩ W (Nat.zero_le 16000) (fun k hk => absurd hk (Nat.not_lt_zero k)))
      generalize (⟨s.toArray⟩ : ByteArray) = b at *
      have hb60 : ¬ (60 : Int) < b.size := by omega
      go_enter Tryd.func98, Tryd.ntmps98
      go_wp2_with ((with_reducible refine (HR.out _).mono ?_); rintro e w' ⟨rfl, rfl⟩)
      go_ret
      exact ⟨rfl, (Below.refl _ _).alloc (Nat.le_refl _) _⟩
    · subst h3
      have hz2 := size_of la
      have hpos : 0 < la.length := List.length_pos_iff.2 h2
      have HR := Lib.hid (fun W => language_ok ⟨la.toArray⟩ W (by omega) (bt_of la lowC h6))
      have hne := nonempty (s := ⟨la.toArray⟩) (by omega)
      clear h2 h6
      generalize (⟨s.toArray⟩ : ByteArray) = b at *
      generalize (⟨la.toArray⟩ : ByteArray) = lb at *
      have hb60 : ¬ (60 : Int) < b.size := by omega
      have hb8 : ¬ (8 : Int) < lb.size := by omega
      go_enter Tryd.func98, Tryd.ntmps98
      go_wp2_with ((with_reducible refine (HR.out _).mono ?_); rintro e w' ⟨rfl, rfl⟩)
      go_ret
      exact ⟨rfl, (Below.refl _ _).alloc (Nat.le_refl _) _⟩
    · subst h2
      have hz2 := size_of ty
      have hpos : 0 < ty.length := List.length_pos_iff.2 h3
      have HR := Lib.hid (fun W => language_ok ⟨#[]⟩ W (Nat.zero_le 16000) (fun k hk => absurd hk (Nat.not_lt_zero k)))
      have HR2 := Lib.hid (fun W => tref_ok ⟨ty.toArray⟩ W (by omega) (by omega) (bt_of ty signB h6))
      have hne := nonempty (s := ⟨ty.toArray⟩) (by omega)
      clear h3 h6
      generalize (⟨s.toArray⟩ : ByteArray) = b at *
      generalize (⟨ty.toArray⟩ : ByteArray) = tb at *
      have hb60 : ¬ (60 : Int) < b.size := by omega
      have ht60 : ¬ (60 : Int) < tb.size := by omega
      go_enter Tryd.func98, Tryd.ntmps98
      go_wp2_with (first | ((with_reducible refine (HR.out _).mono ?_); rintro e w' ⟨rfl, rfl⟩) | ((with_reducible refine (HR2.out _).mono ?_); rintro e w' ⟨rfl, rfl⟩))
      go_ret
      exact ⟨rfl, (Below.refl _ _).alloc (Nat.le_refl _) _⟩
end Go.Proofs.YtpgoemlnjocmhaaDoor.Nt
