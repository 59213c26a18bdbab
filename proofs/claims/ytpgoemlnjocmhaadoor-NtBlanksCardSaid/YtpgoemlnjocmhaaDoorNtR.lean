/-
  A part of the proof of NtBlanks (whatever the input, the law returns true and the input reads as it did): the rows of one drawn triple. Conditions stand at each theorem.
-/
import Derived.Test.YtpgoemlnjocmhaaDoorNtQ
namespace Go.Proofs.YtpgoemlnjocmhaaDoor.Nt
open Go.RowKit Go.Proofs.YtpgoemlnjocmhaaDoor.Lex
open Go.Proofs.YtpgoemlnjocmhaaDoorW.PrintWords hiding blk_lt blk_cell blk_frozen
set_option linter.unusedVariables false
set_option linter.unusedSimpArgs false

theorem trim_no (x : Bs) (c : UInt8) (h : c ≠ 13) : trimR (x ++ [c]) = x ++ [c] := by
  unfold trimR Lib.trimSuffix Lib.hasSuffix
  rw [if_neg]
  intro hs
  rw [List.isSuffixOf_iff_suffix] at hs
  obtain ⟨t, ht⟩ := hs
  have := List.append_inj_right' ht rfl
  injection this with h1
  exact h h1.symm
theorem trim_yes (x : Bs) : trimR (x ++ [13]) = x := by
  unfold trimR Lib.trimSuffix Lib.hasSuffix
  rw [if_pos (by rw [List.isSuffixOf_iff_suffix]; exact ⟨x, rfl⟩)]
  simp
theorem trim_nil : trimR [] = [] := by decide
def bls : List Bs := [[], [32], [9, 32], [32, 32]]
def blQ (k : Nat) : Bs := bls.getD k []
def endQ (e : Nat) : Bs := [[10], [35, 32, 99, 10], [13, 10], [10, 10], [10, 32, 35, 32, 100, 32, 46, 32, 10]].getD e []
def itemQ (b e : Nat) (t : T3) : Bs := bodyQ (blQ b) t ++ endQ e
def rowsQ (b e : Nat) (t : T3) : List Rw :=
  if e = 0 then [(bodyQ (blQ b) t, some t)] else if e = 1 then [(bodyQ (blQ b) t ++ [35, 32, 99], some t)] else if e = 2 then [(bodyQ (blQ b) t ++ [13], some t)] else
  if e = 3 then [(bodyQ (blQ b) t, some t), ([], none)] else [(bodyQ (blQ b) t, some t), ([32, 35, 32, 100, 32, 46, 32], none)]
theorem five (e : Nat) (h : e < 5) : e = 0 ∨ e = 1 ∨ e = 2 ∨ e = 3 ∨ e = 4 := by omega
theorem four (b : Nat) (h : b < 4) : b = 0 ∨ b = 1 ∨ b = 2 ∨ b = 3 := by omega
theorem doc_rows (b e : Nat) (t : T3) (he : e < 5) : docL (rowsQ b e t) = itemQ b e t := by
  rcases five e he with rfl | rfl | rfl | rfl | rfl <;> simp [docL, rowsQ, itemQ, endQ]
theorem filter_rows (b e : Nat) (t : T3) : (rowsQ b e t).filterMap Prod.snd = [t] := by
  unfold rowsQ
  split; · rfl
  split; · rfl
  split; · rfl
  split <;> rfl
theorem blQ_ok (b : Nat) (h : b < 4) : (∀ c ∈ blQ b, blankB (c.toNat : Int) = true) ∧ (blQ b).length ≤ 4 ∧ (∀ c ∈ blQ b, c = 32 ∨ c = 9) := by
  rcases four b h with rfl | rfl | rfl | rfl <;> exact ⟨by decide, by decide, by decide⟩
theorem body_last (b : Nat) (h : b < 4) (t : T3) : ∃ x c, bodyQ (blQ b) t = x ++ [c] ∧ c ≠ 13 := by
  rcases four b h with rfl | rfl | rfl | rfl
  · exact ⟨textQ t.a ++ 32 :: (textQ t.b ++ textQ t.c), 46, by simp [bodyQ, blQ, bls], by decide⟩
  · exact ⟨[32] ++ (textQ t.a ++ ([32] ++ 32 :: (textQ t.b ++ ([32] ++ (textQ t.c ++ ([32] ++ [46])))))), 32, by simp [bodyQ, blQ, bls], by decide⟩
  · exact ⟨[9, 32] ++ (textQ t.a ++ ([9, 32] ++ 32 :: (textQ t.b ++ ([9, 32] ++ (textQ t.c ++ ([9, 32] ++ [46, 9])))))), 32, by simp [bodyQ, blQ, bls], by decide⟩
  · exact ⟨[32, 32] ++ (textQ t.a ++ ([32, 32] ++ 32 :: (textQ t.b ++ ([32, 32] ++ (textQ t.c ++ ([32, 32] ++ [46, 32])))))), 32, by simp [bodyQ, blQ, bls], by decide⟩
theorem body_len (b : Nat) (h : b < 4) (t : T3) (ht : t.ok) : (bodyQ (blQ b) t).length ≤ 700 := by
  have h1 := textQ_len t.a ht.1
  have h2 := textQ_len t.b ht.2.1
  have h3 := textQ_len t.c ht.2.2.1
  have h4 := (blQ_ok b h).2.1
  simp [bodyQ]; omega
theorem body_ne (b : Nat) (h : b < 4) (t : T3) (ht : t.ok) : ∀ c ∈ bodyQ (blQ b) t, c ≠ 10 := by
  have hb : ∀ c ∈ blQ b, c ≠ 10 := by
    intro c hc
    rcases (blQ_ok b h).2.2 c hc with rfl | rfl <;> decide
  intro c hc
  simp only [bodyQ, List.mem_append, List.mem_cons] at hc
  rcases hc with hc | hc | hc | rfl | hc | hc | hc | hc | rfl | hc
  · exact hb c hc
  · exact textQ_ne t.a ht.1 c hc
  · exact hb c hc
  · decide
  · exact textQ_ne t.b ht.2.1 c hc
  · exact hb c hc
  · exact textQ_ne t.c ht.2.2.1 c hc
  · exact hb c hc
  · decide
  · exact hb c hc
theorem body_row (b : Nat) (h : b < 4) (t : T3) (ht : t.ok) (e : Bs) (he : e = [] ∨ ∃ l, e = 35 :: l) (hel : e.length ≤ 10) : RowIs (mkB (bodyQ (blQ b) t ++ e)) (some t) :=
  row_tri (blQ b) t e (blQ_ok b h).1 (blQ_ok b h).2.1 (blQ_ok b h).2.2 ht.1 ht.2.1 ht.2.2.1 ht.2.2.2.1 ht.2.2.2.2 he hel
theorem rows_good (b e : Nat) (t : T3) (hb : b < 4) (he : e < 5) (ht : t.ok) : ∀ r ∈ rowsQ b e t, RowGood r := by
  have h1 := body_ne b hb t ht
  have h2 := body_len b hb t ht
  obtain ⟨x, c, hx, hc⟩ := body_last b hb t
  have plain : RowGood (bodyQ (blQ b) t, some t) := by
    refine ⟨h1, by simp only; omega, ?_⟩
    have h3 := body_row b hb t ht [] (Or.inl rfl) (by decide)
    rw [List.append_nil] at h3
    simp only
    rw [hx, trim_no x c hc, ← hx]
    exact h3
  intro r hr
  rcases five e he with rfl | rfl | rfl | rfl | rfl
  · simp [rowsQ] at hr; subst hr; exact plain
  · simp [rowsQ] at hr; subst hr
    refine ⟨fun c hc => ?_, by simp; omega, ?_⟩
    · rcases List.mem_append.1 hc with hc | hc
      · exact h1 c hc
      · simp at hc; rcases hc with rfl | rfl | rfl <;> decide
    · have h3 := body_row b hb t ht [35, 32, 99] (Or.inr ⟨_, rfl⟩) (by decide)
      have e1 : bodyQ (blQ b) t ++ [35, 32, 99] = (bodyQ (blQ b) t ++ [35, 32]) ++ [99] := by simp
      simp only
      rw [e1, trim_no _ 99 (by decide), ← e1]
      exact h3
  · simp [rowsQ] at hr; subst hr
    refine ⟨fun c hc => ?_, by simp; omega, ?_⟩
    · rcases List.mem_append.1 hc with hc | hc
      · exact h1 c hc
      · simp at hc; subst hc; decide
    · have h3 := body_row b hb t ht [] (Or.inl rfl) (by decide)
      rw [List.append_nil] at h3
      simp only
      rw [trim_yes]
      exact h3
  · simp [rowsQ] at hr
    rcases hr with rfl | rfl
    · exact plain
    · exact ⟨(fun c hc => by cases hc), by decide, row_none_nil⟩
  · simp [rowsQ] at hr
    rcases hr with rfl | rfl
    · exact plain
    · refine ⟨by decide, by decide, ?_⟩
      have e1 : trimR [32, 35, 32, 100, 32, 46, 32] = [32, 35, 32, 100, 32, 46, 32] := trim_no [32, 35, 32, 100, 32, 46] 32 (by decide)
      simp only
      rw [e1]
      exact ⟨by decide, [32], [35, 32, 100, 32, 46, 32], rfl, by decide, Or.inr ⟨_, rfl⟩⟩
theorem item_len (b e : Nat) (t : T3) (hb : b < 4) (ht : t.ok) : (itemQ b e t).length ≤ 720 := by
  have h2 := body_len b hb t ht
  have h3 : (endQ e).length ≤ 10 := by
    unfold endQ
    rcases e with _ | _ | _ | _ | _ | e <;> simp
  simp [itemQ]; omega
end Go.Proofs.YtpgoemlnjocmhaaDoor.Nt
