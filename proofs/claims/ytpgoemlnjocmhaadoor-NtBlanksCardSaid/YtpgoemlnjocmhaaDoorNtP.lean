/-
  A part of the proof of NtBlanks (whatever the input, the law returns true and the input reads as it did): what the drawn document's rows tell. Conditions stand at each theorem.
-/
import Derived.Test.YtpgoemlnjocmhaaDoorNtI
import Derived.Test.YtpgoemlnjocmhaaDoorTrmE
import Derived.Lib.IndexBytes
import Derived.Lib.IndexLaws
import Derived.Lib.SplitLaws
namespace Go.Proofs.YtpgoemlnjocmhaaDoor.Nt
open Go.RowKit Go.Proofs.YtpgoemlnjocmhaaDoor.Lex
open Go.Proofs.YtpgoemlnjocmhaaDoorW.PrintWords hiding blk_lt blk_cell blk_frozen
set_option linter.unusedVariables false
set_option linter.unusedSimpArgs false

theorem escQ_eq (c : UInt8) : escQ c = escL c := rfl
theorem escs_eq (q : Bs) : q.flatMap escQ = q.flatMap escL := by
  induction q with
  | nil => rfl
  | cons c q ih => simp only [List.flatMap_cons]; rw [ih, escQ_eq]
theorem sign_ne {l : Bs} (h : ∀ c ∈ l, signB (c.toNat : Int) = true) : ∀ c ∈ l, c ≠ 62 := by
  rintro c hc rfl
  exact absurd (h 62 hc) (by decide)
theorem low_lang {l : Bs} (h : ∀ c ∈ l, lowC (c.toNat : Int) = true) : ∀ c ∈ l, langB (c.toNat : Int) = true := by
  intro c hc
  have := h c hc
  unfold lowC at this
  unfold langB
  rw [this]
  rfl
/-- A fine term's text is read back. -/
theorem reads_any (t : T) (bl r : Bs) (hf : t.fine) (hbl : ∀ c ∈ bl, blankB (c.toNat : Int) = true) (hr : Ends r) : Reads (bl ++ (textQ t ++ r)) t r := by
  obtain ⟨k, s, la, ty⟩ := t
  rcases hf with ⟨h1, h2, h3, h4, h5, h6⟩ | ⟨h1, h2, h3, h4, h5, h6⟩ | ⟨h1, h5, h⟩
  · simp only at h1 h2 h3 h6
    subst h1; subst h2; subst h3
    have := reads_iri bl s r hbl (sign_ne h6)
    have e : textQ ⟨1, s, [], []⟩ ++ r = 60 :: (s ++ 62 :: r) := by simp [textQ]
    rw [e]; exact this
  · simp only at h1 h2 h3 h6
    subst h1; subst h2; subst h3
    have := reads_blank bl s r hbl h6 hr
    have e : textQ ⟨2, s, [], []⟩ ++ r = 95 :: 58 :: (s ++ r) := by simp [textQ]
    rw [e]; exact this
  · simp only at h1 h
    subst h1
    rcases h with ⟨h2, h3⟩ | ⟨h2, h3, h4, h6⟩ | ⟨h2, h3, h4, h6⟩
    · subst h2; subst h3
      have := reads_lit bl _ r 3 s [] [] hbl (lit_bare' s r hr)
      have e : textQ ⟨3, s, [], []⟩ ++ r = 34 :: (s.flatMap escL ++ 34 :: r) := by simp [textQ, quotQ, escs_eq]
      rw [e]; exact this
    · subst h3
      have := reads_lit bl _ r 3 s la [] hbl (lit_lang' s la r (low_lang h6) hr)
      have e : textQ ⟨3, s, la, []⟩ ++ r = 34 :: (s.flatMap escL ++ 34 :: 64 :: (la ++ r)) := by simp [textQ, quotQ, escs_eq, h2]
      rw [e]; exact this
    · subst h2
      have := reads_lit bl _ r 3 s [] ty hbl (lit_type' s ty r (sign_ne h6) hr)
      have e : textQ ⟨3, s, [], ty⟩ ++ r = 34 :: (s.flatMap escL ++ 34 :: 94 :: 94 :: 60 :: (ty ++ 62 :: r)) := by simp [textQ, quotQ, escs_eq, h3]
      rw [e]; exact this
theorem reads_any1 (t : T) (bl r : Bs) (hf : t.fine) (hk : t.k = 1) (hbl : ∀ c ∈ bl, blankB (c.toNat : Int) = true) : Reads (bl ++ (textQ t ++ r)) t r := by
  obtain ⟨k, s, la, ty⟩ := t
  simp only at hk
  subst hk
  rcases hf with ⟨h1, h2, h3, h4, h5, h6⟩ | ⟨h1, _⟩ | ⟨h1, _⟩
  · simp only at h2 h3 h6
    subst h2; subst h3
    have := reads_iri bl s r hbl (sign_ne h6)
    have e : textQ ⟨1, s, [], []⟩ ++ r = 60 :: (s ++ 62 :: r) := by simp [textQ]
    rw [e]; exact this
  · exact absurd (show (1 : Int) = 2 from h1) (by decide)
  · exact absurd (show (1 : Int) = 3 from h1) (by decide)
theorem textQ_len (t : T) (hf : t.fine) : (textQ t).length ≤ 200 := by
  obtain ⟨k, s, la, ty⟩ := t
  have hq := quotQ_len s
  rcases hf with ⟨h1, h2, h3, h4, h5, h6⟩ | ⟨h1, h2, h3, h4, h5, h6⟩ | ⟨h1, h5, h⟩
  · simp only at h1 h5; subst h1; simp [textQ]; omega
  · simp only at h1 h5; subst h1; simp [textQ]; omega
  · simp only at h1 h5 h
    subst h1
    rcases h with ⟨h2, h3⟩ | ⟨h2, h3, h4, h6⟩ | ⟨h2, h3, h4, h6⟩
    · subst h2; subst h3; simp [textQ]; omega
    · subst h3; simp [textQ, h2]; omega
    · subst h2; simp [textQ, h3]; omega
theorem escQ_ne (c : UInt8) : ∀ x ∈ escQ c, x ≠ 10 := by
  unfold escQ
  intro x hx
  repeat' split at hx
  all_goals
    simp at hx
    rcases hx with rfl | rfl <;> first | decide | assumption
theorem quotQ_ne (s : Bs) : ∀ x ∈ quotQ s, x ≠ 10 := by
  intro x hx
  simp only [quotQ, List.mem_cons, List.mem_append, List.mem_flatMap, List.not_mem_nil, or_false] at hx
  rcases hx with rfl | ⟨c, _, h⟩ | rfl
  · decide
  · exact escQ_ne c x h
  · decide
theorem sign_nl {l : Bs} (h : ∀ c ∈ l, signB (c.toNat : Int) = true) : ∀ c ∈ l, c ≠ 10 := by
  rintro c hc rfl
  exact absurd (h 10 hc) (by decide)
/-- No text of a term holds a line's end. -/
theorem textQ_ne (t : T) (hf : t.fine) : ∀ x ∈ textQ t, x ≠ 10 := by
  obtain ⟨k, s, la, ty⟩ := t
  have hq := quotQ_ne s
  intro x hx
  rcases hf with ⟨h1, h2, h3, h4, h5, h6⟩ | ⟨h1, h2, h3, h4, h5, h6⟩ | ⟨h1, h5, h⟩
  · simp only at h1 h6; subst h1
    simp [textQ] at hx
    rcases hx with rfl | h | rfl
    · decide
    · exact sign_nl h6 x h
    · decide
  · simp only at h1 h6; subst h1
    simp [textQ] at hx
    rcases hx with rfl | rfl | h
    · decide
    · decide
    · rintro rfl; exact absurd (h6 10 h) (by decide)
  · simp only at h1 h5 h
    subst h1
    rcases h with ⟨h2, h3⟩ | ⟨h2, h3, h4, h6⟩ | ⟨h2, h3, h4, h6⟩
    · subst h2; subst h3
      simp [textQ] at hx
      exact hq x hx
    · subst h3
      simp [textQ, h2] at hx
      rcases hx with h | rfl | h
      · exact hq x h
      · decide
      · rintro rfl; exact absurd (h6 10 h) (by decide)
    · subst h2
      simp [textQ, h3] at hx
      rcases hx with h | rfl | rfl | h | rfl
      · exact hq x h
      · decide
      · decide
      · exact sign_nl h6 x h
      · decide
/-- A text's first sign. -/
theorem textQ_head (t : T) (hf : t.fine) : ∃ c l, textQ t = c :: l ∧ blankB (c.toNat : Int) = false ∧ c ≠ 35 := by
  obtain ⟨k, s, la, ty⟩ := t
  rcases hf with ⟨h1, h2, h3, h4, h5, h6⟩ | ⟨h1, h2, h3, h4, h5, h6⟩ | ⟨h1, h5, h⟩
  · simp only at h1; subst h1; exact ⟨60, s ++ [62], rfl, by decide, by decide⟩
  · simp only at h1; subst h1; exact ⟨95, 58 :: s, rfl, by decide, by decide⟩
  · simp only at h1 h5 h
    subst h1
    rcases h with ⟨h2, h3⟩ | ⟨h2, h3, h4, h6⟩ | ⟨h2, h3, h4, h6⟩
    · subst h2; subst h3; exact ⟨34, s.flatMap escQ ++ [34], by simp [textQ, quotQ], by decide, by decide⟩
    · subst h3; exact ⟨34, s.flatMap escQ ++ [34] ++ 64 :: la, by simp [textQ, quotQ, h2], by decide, by decide⟩
    · subst h2; exact ⟨34, s.flatMap escQ ++ [34] ++ (94 :: 94 :: 60 :: (ty ++ [62])), by simp [textQ, quotQ, h3], by decide, by decide⟩
/-- A triple's line, with blanks. -/
def bodyQ (b : Bs) (t : T3) : Bs := b ++ (textQ t.a ++ (b ++ 32 :: (textQ t.b ++ (b ++ (textQ t.c ++ (b ++ 46 :: b))))))
theorem row_tri (b : Bs) (t : T3) (e : Bs) (hb : ∀ c ∈ b, blankB (c.toNat : Int) = true) (hbl : b.length ≤ 4) (hb2 : ∀ c ∈ b, c = 32 ∨ c = 9) (hf1 : t.a.fine) (hf2 : t.b.fine) (hf3 : t.c.fine) (ka : t.a.k ≠ 3) (kb : t.b.k = 1) (he : e = [] ∨ ∃ l, e = 35 :: l) (hel : e.length ≤ 10) :
    RowTri ⟨(bodyQ b t ++ e).toArray⟩ t := by
  have l1 := textQ_len t.a hf1
  have l2 := textQ_len t.b hf2
  have l3 := textQ_len t.c hf3
  have ends : ∀ (c : UInt8) (x : Bs), (c = 32 ∨ c = 9 ∨ c = 46) → Ends (b ++ c :: x) := by
    intro c x hc
    rcases b with _ | ⟨d, b'⟩
    · exact ⟨c, x, rfl, hc⟩
    · refine ⟨d, b' ++ c :: x, rfl, ?_⟩
      rcases hb2 d (by simp) with h | h
      · exact Or.inl h
      · exact Or.inr (Or.inl h)
  obtain ⟨c0, l0, h0, h01, h02⟩ := textQ_head t.a hf1
  refine ⟨?_, hf1, hf2, hf3, ka, kb, b, textQ t.a ++ (b ++ 32 :: (textQ t.b ++ (b ++ (textQ t.c ++ (b ++ 46 :: (b ++ e)))))), b ++ 32 :: (textQ t.b ++ (b ++ (textQ t.c ++ (b ++ 46 :: (b ++ e))))), b ++ (textQ t.c ++ (b ++ 46 :: (b ++ e))), b ++ 46 :: (b ++ e), b, b ++ e, b, e, ?_, hb, ?_, ?_, ?_, ?_, ?_, ?_, ?_, rfl, hb, rfl, hb, he⟩
  · rw [size_of]; simp [bodyQ]; omega
  · simp [bodyQ]
  · exact ⟨c0, l0 ++ (b ++ 32 :: (textQ t.b ++ (b ++ (textQ t.c ++ (b ++ 46 :: (b ++ e)))))), by rw [h0]; rfl, h01, h02⟩
  · have := reads_any t.a [] (b ++ 32 :: (textQ t.b ++ (b ++ (textQ t.c ++ (b ++ 46 :: (b ++ e)))))) hf1 (fun c h => by cases h) (ends 32 _ (Or.inl rfl))
    exact this
  · have := reads_any1 t.b (b ++ [32]) (b ++ (textQ t.c ++ (b ++ 46 :: (b ++ e)))) hf2 kb (fun c h => by
      rcases List.mem_append.1 h with h | h
      · exact hb c h
      · rw [List.mem_singleton.1 h]; decide)
    simpa using this
  · exact reads_any t.c b (b ++ 46 :: (b ++ e)) hf3 hb (ends 46 _ (Or.inr (Or.inr rfl)))
  · simp; omega
  · simp; omega
  · simp; omega
/-! Rows. -/
def splitL : Bs → List Bs
  | [] => [[]]
  | c :: l => if c = 10 then [] :: splitL l else match splitL l with
    | [] => [[c]]
    | h :: t => (c :: h) :: t
theorem splitL_ne (l : Bs) : splitL l ≠ [] := by
  cases l with
  | nil => simp [splitL]
  | cons c l => unfold splitL; split; · simp
                · split <;> simp
theorem splitL_one (a : Bs) (ha : ∀ c ∈ a, c ≠ 10) : splitL a = [a] := by
  induction a with
  | nil => rfl
  | cons c a ih =>
    unfold splitL
    rw [if_neg (ha c (by simp)), ih (fun x hx => ha x (by simp [hx]))]
theorem splitL_row (a r : Bs) (ha : ∀ c ∈ a, c ≠ 10) : splitL (a ++ 10 :: r) = a :: splitL r := by
  induction a with
  | nil => rw [List.nil_append, splitL, if_pos rfl]
  | cons c a ih =>
    rw [List.cons_append, splitL, if_neg (ha c (by simp)), ih (fun x hx => ha x (by simp [hx]))]
theorem index10 (s : ByteArray) : Lib.indexB s ⟨#[10]⟩ = Lib.indexByte s.data.toList 10 := Lib.one s ⟨#[10]⟩ rfl
theorem split_eq : ∀ (k : Nat) (s : ByteArray), Lib.countB s ⟨#[10]⟩ = k → Lib.splitB ⟨#[10]⟩ 0 k s = (splitL s.data.toList).map (fun l => (⟨l.toArray⟩ : ByteArray))
  | k, s, hk => by
    have hi := index10 s
    rcases Lib.indexB_cases s ⟨#[10]⟩ with hix | ⟨i, hix, hle⟩
    · rw [Lib.splitB_miss _ _ _ _ hix]
      rw [hix] at hi
      have hno := Lib.indexByte_none hi.symm
      rw [splitL_one s.data.toList (fun c hc h10 => by
        subst h10
        obtain ⟨j, hj⟩ := List.mem_iff_getElem?.1 hc
        exact hno j hj)]
      rfl
    · rw [hix] at hi
      obtain ⟨h1, h2⟩ := Lib.indexByte_some hi.symm
      have hc := Lib.countB_hit s ⟨#[10]⟩ i (by decide) hix
      obtain ⟨k', rfl⟩ : ∃ k', k = k' + 1 := ⟨k - 1, by omega⟩
      rw [Lib.splitB_hit _ _ _ _ _ hix]
      have hil : i < s.data.toList.length := (List.getElem?_eq_some_iff.1 h1).1
      have e : s.data.toList = s.data.toList.take i ++ 10 :: s.data.toList.drop (i + 1) := by
        have h3 := (List.getElem?_eq_some_iff.1 h1).2
        rw [← h3, ← List.drop_eq_getElem_cons hil, List.take_append_drop]
      rw [e, splitL_row _ _ (fun c hc h10 => by
        subst h10
        obtain ⟨j, hj⟩ := List.mem_iff_getElem?.1 hc
        rw [List.getElem?_take] at hj
        split at hj
        · rename_i hji; exact h2 j hji hj
        · cases hj)]
      have e2 : (s.extract (i + (⟨#[10]⟩ : ByteArray).size) s.size).data.toList = s.data.toList.drop (i + 1) := by
        rw [ByteArray.data_extract, Array.toList_extract]
        show List.extract s.data.toList (i + 1) s.size = _
        rw [List.extract_eq_take_drop, List.take_of_length_le]
        rw [List.length_drop, Array.length_toList]
        exact Nat.le_refl _
      have ih := split_eq k' (s.extract (i + (⟨#[10]⟩ : ByteArray).size) s.size) (by have : (⟨#[10]⟩ : ByteArray).size = 1 := rfl; omega)
      rw [ih, e2]
      simp only [List.map_cons]
      congr 1
      apply ByteArray.ext
      apply Array.ext'
      rw [ByteArray.data_extract, Array.toList_extract]
      simp
  termination_by k => k
end Go.Proofs.YtpgoemlnjocmhaaDoor.Nt
