/-
  A part of the proof of LexTokens (whatever the input, the law returns true and the input reads as it did): what one call of lex.one tells. Conditions stand at each theorem.
-/
import Derived.Test.YtpgoemlnjocmhaaDoorLexH
namespace Go.Proofs.YtpgoemlnjocmhaaDoor.Lex
open Go.RowKit Go.Proofs.YtpgoemlnjocmhaaDoorW.PrintWords
set_option linter.unusedVariables false
set_option linter.unusedSimpArgs false

theorem cellsOf_one (l : List Tok) : ∀ u ∈ cellsOf l, u.oneCell' = true := by
  intro u hu
  simp only [cellsOf, List.mem_flatMap, List.mem_cons, List.not_mem_nil, or_false] at hu
  obtain ⟨t, _, rfl | rfl⟩ := hu <;> rfl

set_option maxHeartbeats 1600000 in
set_option maxRecDepth 100000 in
theorem clone_any (B : Nat) (v : Value) (out : List Tok) (w : World) (hown : w.ownsRow B 48 2 v out.length (cellsOf out)) (ho : out.length ≤ 4000) (hB : B ≤ w.heap.size) :
    Calls Tryd.prog 29 #[v] w fun e w' => ∃ v', e = .returned v' ∧ w'.ownsRow B 48 2 v' out.length (cellsOf out) ∧ Below B w w' := by
  obtain ⟨i0, hi, hz0, hz1, hz2⟩ := info_parts info_tok
  have heq := fun (W : World) a n c => Lib.run_eql_slice_nil (P := Tryd.prog) W 26 48 a n c 0 0 Tryd.underlying26
  have HO := Lib.hid hown
  rcases hown.2 with ⟨rfl, hn⟩ | ⟨g, cap, cur, rfl, hBg, hblk, _⟩
  · clear hown
    go_enter Tryd.func29, Tryd.ntmps29
    go_wp2
    go_ret
    exact ⟨_, rfl, HO.out, Below.refl _ _⟩
  · have hcs := hown.cells (g := g) rfl
    have HC := Lib.hid hcs
    have hgl := blk_lt hblk
    have HN := Lib.hid ((w.ownsRow_lit (base := B) (e := 48) (size := 2) #[] 0 hB (by unfold maxLen; omega) rfl))
    clear hown hcs hblk
    go_enter Tryd.func29, Tryd.ntmps29
    go_wp2_with (at_builtin; refine wpList_append_own _ rfl _ _ 26 rfl B 48 i0 (.agg #[.int .i64 0, .string ⟨#[]⟩]) 2 24 Tryd.underlying26 hi hz0 hz1 hz2 rfl (by decide) _ _ _ rfl HN.out ⟨g, 0, none⟩ out.length cap (cellsOf out) rfl (cellsOf_len out) ?c1 (cellsOf_one out) ?c3 ?c4 ?c5 ?_)
    case c1 =>
      intro j u hj
      have h := HC.out j u hj
      have ha : (⟨g, 0, none⟩ : Addr).add j = ⟨g, j, none⟩ := by unfold Addr.add; split <;> simp_all
      rw [ha] at h
      exact h
    case c3 => unfold maxLen; omega
    case c4 => omega
    case c5 => first | omega | (simp; omega)
    intro v' w1 hown' hgrow _
    have HO2 := Lib.hid hown'
    have HB := Lib.hid (((Below.refl B w).alloc hB (.cells #[] 48 (0, 0))).grown hgrow (by simp; omega) (fun k hk => by simp [Value.ownBlock] at hk; omega))
    clear hown' hgrow
    go_wp2
    go_ret
    refine ⟨_, rfl, ?_, HB.out⟩
    have := HO2.out
    simpa using this

/-- The first reader that fits. -/
def tokT (s : ByteArray) : Option (Int × ByteArray × Nat) :=
  match iriT s with
  | some r => some r
  | none => match blankT s with
  | some r => some r
  | none => match varT s with
  | some r => some r
  | none => match textT s with
  | some r => some r
  | none => match langT s with
  | some r => some r
  | none => match numT s with
  | some r => some r
  | none => match nameT s with
  | some r => some r
  | none => match wordT s with
  | some r => some r
  | none => signT s
theorem cnt_le' {p : Int → Bool} {s : ByteArray} {i n : Nat} (h : cnt p s i = n) : n ≤ s.size - i := h ▸ cnt_le p s i
theorem textF_pos (s : ByteArray) (q : Int) : ∀ (k i : Nat) (acc : List Int) (r : List Int × Nat), textF s q k i acc = some r → i < r.2
  | 0, _, _, _, h => by simp [textF] at h
  | k + 1, i, acc, r, h => by
    rw [textF] at h
    split at h
    · split at h
      · simp at h; subst h; exact Nat.lt_succ_self _
      · split at h
        · simp at h
        · split at h
          · split at h
            · simp at h
            · have := textF_pos s q k _ _ _ h; omega
          · have := textF_pos s q k _ _ _ h; omega
    · simp at h
theorem iriT_pos {s t : ByteArray} {k : Int} {n : Nat} (h : iriT s = some (k, t, n)) : 0 < n := by
  unfold iriT at h
  split at h <;> simp at h
  omega
theorem blankT_pos {s t : ByteArray} {k : Int} {n : Nat} (h : blankT s = some (k, t, n)) : 0 < n := by
  unfold blankT at h
  split at h <;> simp at h
  omega
theorem varT_pos {s t : ByteArray} {k : Int} {n : Nat} (h : varT s = some (k, t, n)) : 0 < n := by
  unfold varT at h
  split at h <;> simp at h
  omega
theorem textT_pos {s t : ByteArray} {k : Int} {n : Nat} (h : textT s = some (k, t, n)) : 0 < n := by
  unfold textT at h
  split at h
  · simp only [Option.map_eq_some_iff] at h
    obtain ⟨r, hr, he⟩ := h
    have := textF_pos _ _ _ _ _ _ hr
    simp at he
    omega
  · simp at h
theorem langT_pos {s t : ByteArray} {k : Int} {n : Nat} (h : langT s = some (k, t, n)) : 0 < n := by
  unfold langT at h
  split at h <;> simp at h
  omega
theorem numT_pos {s t : ByteArray} {k : Int} {n : Nat} (h : numT s = some (k, t, n)) : 0 < n := by
  unfold numT numN at h
  split at h
  · simp at h
    obtain ⟨_, _, h⟩ := h
    split at h <;> omega
  · simp at h
theorem nameT_pos {s t : ByteArray} {k : Int} {n : Nat} (h : nameT s = some (k, t, n)) : 0 < n := by
  unfold nameT at h
  split at h
  · rename_i hk
    simp at h
    have := undot_gt s (nameK s) hk (nameK s + 1 + cnt nddB s (nameK s + 1)) (by omega)
    obtain ⟨_, _, h⟩ := h
    unfold nameN at h
    omega
  · simp at h
theorem nameB_letter {c : Int} (h : letterB c = true) : nameB c = true := by simp [nameB, h]
theorem wordT_pos {s t : ByteArray} {k : Int} {n : Nat} (h : wordT s = some (k, t, n)) : 0 < n := by
  unfold wordT at h
  split at h
  · rename_i hl
    simp at h
    have hlt : 0 < s.size := bt_lt' (i := 0) hl (by decide)
    have := cnt_yes nameB s 0 hlt (nameB_letter hl)
    omega
  · simp at h
theorem signT_pos {s t : ByteArray} {k : Int} {n : Nat} (h : signT s = some (k, t, n)) : 0 < n := by
  unfold signT at h
  split at h
  · simp at h; omega
  · split at h <;> simp at h
    omega
theorem tokT_pos {s t : ByteArray} {k : Int} {n : Nat} (h : tokT s = some (k, t, n)) : 0 < n := by
  unfold tokT at h
  split at h
  · rename_i h1; rw [h] at h1; exact iriT_pos h1
  split at h
  · rename_i h1; rw [h] at h1; exact blankT_pos h1
  split at h
  · rename_i h1; rw [h] at h1; exact varT_pos h1
  split at h
  · rename_i h1; rw [h] at h1; exact textT_pos h1
  split at h
  · rename_i h1; rw [h] at h1; exact langT_pos h1
  split at h
  · rename_i h1; rw [h] at h1; exact numT_pos h1
  split at h
  · rename_i h1; rw [h] at h1; exact nameT_pos h1
  split at h
  · rename_i h1; rw [h] at h1; exact wordT_pos h1
  · exact signT_pos h
theorem blankF_size : ∀ (k : Nat) (s : ByteArray), (blankF k s).size ≤ s.size
  | 0, s => Nat.le_refl _
  | k + 1, s => by
    unfold blankF
    have := trimB_size s
    split
    · have h := blankF_size k ((trimB s).extract (cnt notNlB (trimB s) 0) (trimB s).size)
      simp at h
      omega
    · exact this
/-- The tokens of a text that begins with no blank. -/
def lexF : Nat → ByteArray → List Tok → Option (List Tok)
  | 0, _, _ => none
  | k + 1, s, out =>
    if s.size = 0 then some out
    else match tokT s with
    | none => none
    | some (kd, t, n) => lexF k (blankF ((s.extract n s.size).size + 1) (s.extract n s.size)) (out ++ [(kd, t)])
/-- lex.Tokens. -/
def lexT (s : ByteArray) : List Tok × Int :=
  if s.size > 4000 then ([], 5)
  else match lexF (s.size + 1) (blankF (s.size + 1) s) [] with
  | some l => (l, 0)
  | none => ([], 6)
end Go.Proofs.YtpgoemlnjocmhaaDoor.Lex
