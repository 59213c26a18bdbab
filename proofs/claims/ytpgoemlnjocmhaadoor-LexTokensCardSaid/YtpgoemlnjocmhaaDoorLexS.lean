/-
  A part of the proof of LexTokens (whatever the input, the law returns true and the input reads as it did): plain law: the two readers tell the same. Conditions stand at each theorem.
-/
import Derived.Test.YtpgoemlnjocmhaaDoorLexR
namespace Go.Proofs.YtpgoemlnjocmhaaDoor.Lex
open Go.RowKit Go.Proofs.YtpgoemlnjocmhaaDoorW.PrintWords
set_option linter.unusedVariables false
set_option linter.unusedSimpArgs false

def wsB (c : Int) : Bool := c == 32 || c == 9 || c == 10 || c == 13
/-- The reference's tokens from a place on. -/
def refF : Nat → ByteArray → Nat → List Tok → Option (List Tok)
  | 0, _, _, _ => none
  | k + 1, s, i, out =>
    if i < s.size then
      if wsB (bt s i) = true then refF k s (i + 1) out
      else if bt s i = 35 then refF k s (i + cnt notNlB s i) out
      else match tokR s i with
      | none => none
      | some (kd, t, n) => refF k s n (out ++ [(kd, t)])
    else some out
/-- The reference's tokens. -/
def refT (s : ByteArray) : List Tok × Int :=
  if s.size > 4000 then ([], 5)
  else match refF (s.size + 1) s 0 [] with
  | some l => (l, 0)
  | none => ([], 6)

theorem blankF_fuel : ∀ (k m : Nat) (s : ByteArray), s.size < k → blankF (k + m) s = blankF k s
  | 0, m, s, h => absurd h (by omega)
  | k + 1, m, s, h => by
    rw [show k + 1 + m = (k + m) + 1 by omega]
    unfold blankF
    cases hp : Lib.hasPrefix (trimB s).data.toList [35] with
    | false => simp
    | true =>
      simp only [if_true]
      have h1 := comment_pos hp
      have h2 := trimB_size s
      have h3 : ((trimB s).extract (cnt notNlB (trimB s) 0) (trimB s).size).size = (trimB s).size - cnt notNlB (trimB s) 0 := by simp
      exact blankF_fuel k m _ (by rw [h3]; omega)
theorem lexF_fuel : ∀ (k m : Nat) (s : ByteArray) (out : List Tok), s.size < k → lexF (k + m) s out = lexF k s out
  | 0, m, s, out, h => absurd h (by omega)
  | k + 1, m, s, out, h => by
    rw [show k + 1 + m = (k + m) + 1 by omega]
    unfold lexF
    split
    · rfl
    · cases ht : tokT s with
      | none => rfl
      | some r =>
        obtain ⟨kd, t, n⟩ := r
        have hn := tokT_pos ht
        have h1 := blankF_size ((s.extract n s.size).size + 1) (s.extract n s.size)
        have h2 : (s.extract n s.size).size = s.size - n := by simp
        exact lexF_fuel k m _ _ (by omega)
/-- Past blanks and comments, with enough of rounds. -/
def blanksOf (s : ByteArray) : ByteArray := blankF (s.size + 1) s
theorem blankF_of (k : Nat) (s : ByteArray) (h : s.size < k) : blankF k s = blanksOf s := by
  obtain ⟨m, rfl⟩ : ∃ m, k = s.size + 1 + m := ⟨k - (s.size + 1), by omega⟩
  exact blankF_fuel _ _ _ (by omega)
def lexOf (s : ByteArray) (out : List Tok) : Option (List Tok) := lexF (s.size + 1) s out
theorem lexF_of (k : Nat) (s : ByteArray) (out : List Tok) (h : s.size < k) : lexF k s out = lexOf s out := by
  obtain ⟨m, rfl⟩ : ∃ m, k = s.size + 1 + m := ⟨k - (s.size + 1), by omega⟩
  exact lexF_fuel _ _ _ _ (by omega)
theorem wsB_iff (c : UInt8) : wsp.contains c = wsB (c.toNat : Int) := by
  have key : ∀ n : Fin 256, wsp.contains (UInt8.ofNat n.val) = wsB (n.val : Int) := by decide +kernel
  have := key ⟨c.toNat, c.toNat_lt⟩
  simpa using this
theorem trimB_list (s : ByteArray) : (trimB s).data.toList = s.data.toList.dropWhile (fun c => wsB (c.toNat : Int)) := by
  show (s.data.toList.dropWhile (fun c => wsp.contains c)).toArray.toList = _
  rw [show (fun c => wsp.contains c) = (fun c : UInt8 => wsB (c.toNat : Int)) from funext wsB_iff]
theorem trimB_ws (s : ByteArray) (i : Nat) (hi : i < s.size) (h : wsB (bt s i) = true) : trimB (tl s i) = trimB (tl s (i + 1)) := by
  apply ba_ext
  rw [trimB_list, trimB_list, tl_list, tl_list]
  obtain ⟨c, h1, h2⟩ := drop_bt s i hi
  rw [h1, List.dropWhile_cons, if_pos (by rw [h2]; exact h)]
theorem trimB_no (s : ByteArray) (i : Nat) (h : i < s.size → wsB (bt s i) = false) : trimB (tl s i) = tl s i := by
  apply ba_ext
  rw [trimB_list, tl_list]
  rcases Nat.lt_or_ge i s.size with hi | hi
  · obtain ⟨c, h1, h2⟩ := drop_bt s i hi
    rw [h1, List.dropWhile_cons, if_neg (by rw [h2, h hi]; simp)]
  · rw [List.drop_eq_nil_of_le (by simpa using hi)]; rfl
theorem blanks_ws (s : ByteArray) (i : Nat) (hi : i < s.size) (h : wsB (bt s i) = true) : blanksOf (tl s i) = blanksOf (tl s (i + 1)) := by
  have h1 : ∀ k, blankF (k + 1) (tl s i) = blankF (k + 1) (tl s (i + 1)) := fun k => by unfold blankF; rw [trimB_ws s i hi h]
  unfold blanksOf
  rw [h1]
  exact blankF_of _ _ (by rw [tl_size, tl_size]; omega)
theorem pre1 (s : ByteArray) : Lib.hasPrefix s.data.toList [35] = true ↔ bt s 0 = 35 := by
  constructor
  · intro h
    have h1 := hasPrefix_len h
    have h2 : 1 ≤ s.size := by simpa using h1
    obtain ⟨c, h3, h4⟩ := drop_bt s 0 (by omega)
    simp only [List.drop_zero] at h3
    rw [h3] at h
    simp [Lib.hasPrefix, List.isPrefixOf] at h
    subst h
    exact h4.symm
  · intro h
    have h1 : 0 < s.size := bt_lt (i := 0) h (by omega)
    obtain ⟨c, h3, h4⟩ := drop_bt s 0 h1
    simp only [List.drop_zero] at h3
    rw [h3]
    have e1 : c = 35 := UInt8.toNat_inj.1 (by have : (c.toNat : Int) = 35 := h4.trans h; simp; omega)
    subst e1
    simp [Lib.hasPrefix, List.isPrefixOf]
theorem blanks_comment (s : ByteArray) (i : Nat) (hi : i < s.size) (h : bt s i = 35) : blanksOf (tl s i) = blanksOf (tl s (i + cnt notNlB s i)) := by
  have ht : trimB (tl s i) = tl s i := trimB_no s i (fun _ => by rw [h]; rfl)
  have hp : Lib.hasPrefix (tl s i).data.toList [35] = true := (pre1 _).2 (by rw [tl_bt0]; exact h)
  have hc := comment_pos hp
  rw [tl_cnt, Nat.add_zero] at hc
  have h1 : blanksOf (tl s i) = blankF (tl s i).size (tl s (i + cnt notNlB s i)) := by
    show blankF ((tl s i).size + 1) (tl s i) = _
    rw [blankF, ht, if_pos hp, tl_cnt, Nat.add_zero, tl_tl]
  rw [h1]
  exact blankF_of _ _ (by rw [tl_size, tl_size]; omega)
theorem blanks_no (s : ByteArray) (i : Nat) (h : i < s.size → wsB (bt s i) = false) (h2 : bt s i ≠ 35) : blanksOf (tl s i) = tl s i := by
  have ht := trimB_no s i h
  unfold blanksOf
  unfold blankF
  rw [ht, if_neg (fun h3 => h2 (by rw [← tl_bt0]; exact (pre1 _).1 h3))]
theorem textF_le (s : ByteArray) (q : Int) : ∀ (k i : Nat) (acc : List Int) (r : List Int × Nat), textF s q k i acc = some r → r.2 ≤ s.size
  | 0, _, _, _, h => by simp [textF] at h
  | k + 1, i, acc, r, h => by
    rw [textF] at h
    split at h
    · split at h
      · simp at h; subst h; assumption
      · split at h
        · simp at h
        · split at h
          · split at h
            · simp at h
            · exact textF_le s q k _ _ _ h
          · exact textF_le s q k _ _ _ h
    · simp at h
theorem numN_le (s : ByteArray) : numN s ≤ s.size := by
  have h1 := cnt_le digitB s 0
  unfold numN
  simp only []
  split
  · rename_i h
    have h2 := bt_lt h.1 (by omega)
    have h3 := cnt_le digitB s (cnt digitB s 0 + 1)
    omega
  · omega
theorem tokT_le {s t : ByteArray} {k : Int} {n : Nat} (h0 : 0 < s.size) (h : tokT s = some (k, t, n)) : n ≤ s.size := by
  unfold tokT at h
  split at h
  · rename_i h1; rw [h] at h1
    unfold iriT at h1
    split at h1 <;> simp at h1
    rename_i h2
    have := bt_lt h2.2 (by omega)
    omega
  split at h
  · rename_i h1; rw [h] at h1
    unfold blankT at h1
    split at h1 <;> simp at h1
    have := cnt_le nameB s 2
    omega
  split at h
  · rename_i h1; rw [h] at h1
    unfold varT at h1
    split at h1 <;> simp at h1
    rename_i h2
    have := bt_lt' (i := 1) h2.2 (by decide)
    have := cnt_le nameB s 1
    omega
  split at h
  · rename_i h1; rw [h] at h1
    unfold textT at h1
    split at h1
    · simp only [Option.map_eq_some_iff] at h1
      obtain ⟨r, hr, he⟩ := h1
      have := textF_le _ _ _ _ _ _ hr
      simp at he
      omega
    · simp at h1
  split at h
  · rename_i h1; rw [h] at h1
    unfold langT at h1
    split at h1 <;> simp at h1
    rename_i h2
    have := bt_lt' (i := 1) h2.2 (by decide)
    have := cnt_le lowdB s 1
    omega
  split at h
  · rename_i h1; rw [h] at h1
    unfold numT at h1
    split at h1 <;> simp at h1
    have := numN_le s
    omega
  split at h
  · rename_i h1; rw [h] at h1
    unfold nameT at h1
    split at h1 <;> simp at h1
    rename_i h2
    have := bt_lt h2 (by omega)
    have := cnt_le nddB s (nameK s + 1)
    have := undot_le s (nameK s + 1 + cnt nddB s (nameK s + 1))
    obtain ⟨_, _, h3⟩ := h1
    unfold nameN at h3
    omega
  split at h
  · rename_i h1; rw [h] at h1
    unfold wordT at h1
    split at h1 <;> simp at h1
    have := cnt_le nameB s 0
    omega
  · unfold signT at h
    split at h
    · rename_i p hp
      have h1 := hasPrefix_len (List.find?_some hp)
      have h3 := List.mem_of_find?_eq_some hp
      have h4 : p.length = 2 := by simp [twos] at h3; rcases h3 with rfl | rfl | rfl | rfl | rfl | rfl <;> rfl
      have h5 : s.data.toList.length = s.size := by simp
      simp at h
      omega
    · split at h <;> simp at h
      omega
/-- The reference's tokens from a place on are the program's of what is left there. -/
theorem ref_lex : ∀ (k : Nat) (s : ByteArray) (i : Nat) (out : List Tok), i ≤ s.size → s.size < k + i → refF k s i out = lexOf (blanksOf (tl s i)) out
  | 0, s, i, out, h1, h2 => absurd h2 (by omega)
  | k + 1, s, i, out, h1, h2 => by
    unfold refF
    by_cases hi : i < s.size
    · rw [if_pos hi]
      cases hw : wsB (bt s i) with
      | true =>
        rw [if_pos rfl, blanks_ws s i hi hw]
        exact ref_lex k s (i + 1) out (by omega) (by omega)
      | false =>
        rw [if_neg (by simp)]
        by_cases hc : bt s i = 35
        · have hcl := cnt_le notNlB s i
          have hcp := cnt_yes notNlB s i hi (by rw [hc]; rfl)
          rw [if_pos hc, blanks_comment s i hi hc]
          exact ref_lex k s _ out (by omega) (by omega)
        · rw [if_neg hc, blanks_no s i (fun _ => hw) hc, tok_tl s i hi]
          unfold lexOf lexF
          rw [if_neg (by rw [tl_size]; omega)]
          cases ht : tokT (tl s i) with
          | none => rfl
          | some r =>
            obtain ⟨kd, t, n⟩ := r
            have hn := tokT_pos ht
            have hm := tokT_le (by rw [tl_size]; omega) ht
            rw [tl_size] at hm
            show refF k s (i + n) (out ++ [(kd, t)]) = lexF (tl s i).size (blankF (((tl s i).extract n (tl s i).size).size + 1) ((tl s i).extract n (tl s i).size)) (out ++ [(kd, t)])
            rw [tl_tl, ref_lex k s (i + n) _ (by omega) (by omega)]
            have hb := blankF_size ((tl s (i + n)).size + 1) (tl s (i + n))
            rw [lexF_of _ _ _ (by have e1 := tl_size s i; have e2 := tl_size s (i + n); rw [e2] at hb ⊢; omega)]
            rfl
    · have he : i = s.size := by omega
      rw [if_neg hi]
      have hz : bt s i ≠ 35 := fun h => absurd (bt_lt h (by omega)) hi
      rw [blanks_no s i (fun h => absurd h hi) hz]
      unfold lexOf lexF
      rw [if_pos (by rw [tl_size]; omega)]
theorem tl_zero (s : ByteArray) : tl s 0 = s := by
  apply ba_ext
  rw [tl_list]
  rfl
theorem ref_eq (s : ByteArray) : refT s = lexT s := by
  unfold refT lexT
  split
  · rfl
  · have h := ref_lex (s.size + 1) s 0 [] (by omega) (by omega)
    rw [tl_zero] at h
    have hb := blankF_size (s.size + 1) s
    rw [h, lexF_of _ _ _ (by omega)]
    rfl
end Go.Proofs.YtpgoemlnjocmhaaDoor.Lex
