/-
  A part of the proof of NtBlanks (whatever the input, the law returns true and the input reads as it did): the law's letters. Conditions stand at each theorem.
-/
import Derived.Test.YtpgoemlnjocmhaaDoorNtE
namespace Go.Proofs.YtpgoemlnjocmhaaDoor.Nt
open Go.RowKit Go.Proofs.YtpgoemlnjocmhaaDoor.Lex
open Go.Proofs.YtpgoemlnjocmhaaDoorW.PrintWords hiding blk_lt blk_cell blk_frozen
set_option linter.unusedVariables false
set_option linter.unusedSimpArgs false

/-- Letters from a to e. -/
def Lets (s : ByteArray) : Prop := ∀ c ∈ s.data.toList, 97 ≤ c.toNat ∧ c.toNat ≤ 101
theorem one_reads (w : World) (z : Int) : ReadsInt (w.alloc (.cells #[.int .u8 z] 5 (0, 0))) .u8 (some ⟨w.heap.size, 0, none⟩) 1 [z] :=
  ⟨rfl, by omega, fun _ => ⟨_, rfl, fun j hj => by
    obtain rfl : j = 0 := by omega
    show (w.alloc _).cell? ⟨w.heap.size, 0, none⟩ = _
    rw [World.cell?_alloc_at _ _ _ _ rfl]; rfl⟩⟩
theorem one_let (c : Int) (h : 0 ≤ c) : Lets (strOfNums [97 + c % 5]) ∧ (strOfNums [97 + c % 5]).size = 1 := by
  have h1 : 0 ≤ c % 5 := by omega
  have h2 : c % 5 < 5 := by omega
  generalize c % 5 = d at *
  obtain ⟨n, rfl⟩ : ∃ n : Nat, d = n := ⟨d.toNat, by omega⟩
  have h3 : n = 0 ∨ n = 1 ∨ n = 2 ∨ n = 3 ∨ n = 4 := by omega
  rcases h3 with rfl | rfl | rfl | rfl | rfl <;> refine ⟨?_, rfl⟩ <;> intro c hc <;> simp [strOfNums] at hc <;> subst hc <;> decide
theorem lets_app {o q : ByteArray} {i : Int} (h : Lets o ∧ (o.size : Int) = i) (k : Lets q ∧ q.size = 1) : Lets (o ++ q) ∧ ((o ++ q).size : Int) = i + 1 := by
  refine ⟨fun c hc => ?_, by rw [ByteArray.size_append]; omega⟩
  rw [ByteArray.data_append, Array.toList_append, List.mem_append] at hc
  rcases hc with hc | hc
  · exact h.1 c hc
  · exact k.1 c hc
set_option maxHeartbeats 800000 in
set_option maxRecDepth 100000 in
theorem letters_any (s : ByteArray) (most : Int) (w : World) (hs : s.size ≤ 140737488351232) (h0 : 0 ≤ most) (h1 : most ≤ 20) :
    Calls Tryd.prog 89 #[.string s, .int .i64 most] w fun e w' => ∃ o : ByteArray, e = .returned (.string o) ∧ Lets o ∧ (o.size : Int) ≤ most ∧ Below w.heap.size w w' := by
  go_enter Tryd.func89, Tryd.ntmps89
  go_wp2
  go_loopw [5, 6] (fun v5 v6 wr => ∃ (o : ByteArray) (i : Int), v5 = .string o ∧ v6 = .int .i64 i ∧ 0 ≤ i ∧ i ≤ most ∧ Hid (Lets o ∧ (o.size : Int) = i) ∧ Hid (Below w.heap.size w wr)) (fun _ v _ => 20 - (intOf v).toNat)
  case atStart => exact ⟨⟨#[]⟩, 0, rfl, rfl, by omega, by omega, Lib.hid ⟨(fun c hc => by cases hc), rfl⟩, Lib.hid (Below.refl _ _)⟩
  case round =>
    obtain ⟨o, i, rfl, rfl, hi0, hi1, HO, HB⟩ := hrel
    by_cases hl : i < s.size
    · by_cases hm : i < most
      · have hx5 := bt_at s i
        have hbr := bt_range s i
        have hb1 := hbr.1
        have hb2 := hbr.2
        clear hbr
        generalize bt s i = c at *
        have hcv := string_of_reads (P := Tryd.prog) (src := 73) (dst := 9) (c := 1) Tryd.underlying73 Tryd.underlying5 Tryd.underlying9 (one_reads wr (97 + c % 5))
        have HC := Lib.hid (one_let c hb1)
        generalize strOfNums [97 + c % 5] = q at *
        have hsum : o.size + q.size ≤ 9223372036854775807 := by have := HO.out.2; have := HC.out.2; omega
        go_wp2
        go_roundw
        case rel => exact ⟨_, i + 1, rfl, by go_num, by omega, by omega, Lib.hid (lets_app HO.out HC.out), Lib.hid (HB.out.alloc HB.out.size _)⟩
        case measure => simp [intOf]; omega
      · go_wp2
        go_ret
        exact ⟨o, rfl, HO.out.1, by have := HO.out.2; omega, HB.out⟩
    · go_wp2
      go_ret
      exact ⟨o, rfl, HO.out.1, by have := HO.out.2; omega, HB.out⟩
/-! The law's own functions. -/
set_option maxHeartbeats 800000 in
theorem within6_any (a n : Int) (w : World) (hn : 0 < n) (hn2 : n ≤ 1000000) : Calls Tryd.prog 88 #[.int .i64 a, .int .i64 n] w fun e w' => e = .returned (.int .i64 (a % n)) ∧ w = w' := by
  have hm : Int.tmod a n = if 0 ≤ a ∨ a % n = 0 then a % n else a % n - n := by
    rw [Int.tmod_eq_emod]
    by_cases h : 0 ≤ a
    · simp [h]
    · by_cases h2 : n ∣ a
      · simp [h2, Int.emod_eq_zero_of_dvd h2]
      · have h3 : a % n ≠ 0 := fun h4 => h2 (Int.dvd_of_emod_eq_zero h4)
        rw [if_neg (by simp [h, h2]), if_neg (by simp [h, h3])]
        rw [Int.natAbs_of_nonneg (by omega)]
  have h1 := Int.emod_nonneg a (show n ≠ 0 by omega)
  have h2 := Int.emod_lt_of_pos a hn
  have hne : (n == 0) = false := beq_eq_false_iff_ne.2 (by omega)
  have hne2 : ¬ n = 0 := by omega
  by_cases hs : 0 ≤ a ∨ a % n = 0
  · rw [if_pos hs] at hm
    have HM := Lib.hid hm
    clear hs
    generalize hq : a % n = q at *
    generalize hp : Int.tmod a n = p at *
    have HP := Lib.hid hp
    have hpq : 0 ≤ p := by have := HM.out; omega
    clear hm hp hq
    have e1 : Int.tmod a n = p := HP.out
    go_enter Tryd.func88, Tryd.ntmps88
    go_wp2
    go_ret
    exact ⟨by rw [← HM.out]; rfl, rfl⟩
  · rw [if_neg hs] at hm
    have HM := Lib.hid hm
    clear hs
    generalize hq : a % n = q at *
    generalize hp : Int.tmod a n = p at *
    have HP := Lib.hid hp
    have hpq : p < 0 := by have := HM.out; omega
    have hpn : 0 ≤ p + n := by have := HM.out; omega
    have hpl : -1000000 ≤ p := by have := HM.out; omega
    clear hm hp hq
    have e1 : Int.tmod a n = p := HP.out
    go_enter Tryd.func88, Tryd.ntmps88
    go_wp2
    go_ret
    exact ⟨by have := HM.out; rw [show q = p + n by omega]; rfl, rfl⟩

/-! The law's own functions. -/
set_option maxHeartbeats 800000 in
theorem within9_any (a n : Int) (w : World) (hn : 0 < n) (hn2 : n ≤ 1000000) : Calls Tryd.prog 14 #[.int .i64 a, .int .i64 n] w fun e w' => e = .returned (.int .i64 (a % n)) ∧ w = w' := by
  have hm : Int.tmod a n = if 0 ≤ a ∨ a % n = 0 then a % n else a % n - n := by
    rw [Int.tmod_eq_emod]
    by_cases h : 0 ≤ a
    · simp [h]
    · by_cases h2 : n ∣ a
      · simp [h2, Int.emod_eq_zero_of_dvd h2]
      · have h3 : a % n ≠ 0 := fun h4 => h2 (Int.dvd_of_emod_eq_zero h4)
        rw [if_neg (by simp [h, h2]), if_neg (by simp [h, h3])]
        rw [Int.natAbs_of_nonneg (by omega)]
  have h1 := Int.emod_nonneg a (show n ≠ 0 by omega)
  have h2 := Int.emod_lt_of_pos a hn
  have hne : (n == 0) = false := beq_eq_false_iff_ne.2 (by omega)
  have hne2 : ¬ n = 0 := by omega
  by_cases hs : 0 ≤ a ∨ a % n = 0
  · rw [if_pos hs] at hm
    have HM := Lib.hid hm
    clear hs
    generalize hq : a % n = q at *
    generalize hp : Int.tmod a n = p at *
    have HP := Lib.hid hp
    have hpq : 0 ≤ p := by have := HM.out; omega
    clear hm hp hq
    have e1 : Int.tmod a n = p := HP.out
    go_enter Tryd.func14, Tryd.ntmps14
    go_wp2
    go_ret
    exact ⟨by rw [← HM.out]; rfl, rfl⟩
  · rw [if_neg hs] at hm
    have HM := Lib.hid hm
    clear hs
    generalize hq : a % n = q at *
    generalize hp : Int.tmod a n = p at *
    have HP := Lib.hid hp
    have hpq : p < 0 := by have := HM.out; omega
    have hpn : 0 ≤ p + n := by have := HM.out; omega
    have hpl : -1000000 ≤ p := by have := HM.out; omega
    clear hm hp hq
    have e1 : Int.tmod a n = p := HP.out
    go_enter Tryd.func14, Tryd.ntmps14
    go_wp2
    go_ret
    exact ⟨by have := HM.out; rw [show q = p + n by omega]; rfl, rfl⟩

end Go.Proofs.YtpgoemlnjocmhaaDoor.Nt
