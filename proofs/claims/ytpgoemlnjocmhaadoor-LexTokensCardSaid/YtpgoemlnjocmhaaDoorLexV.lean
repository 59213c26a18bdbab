/-
  A part of the proof of LexTokens (whatever the input, the law returns true and the input reads as it did): the two token rows are the same. Conditions stand at each theorem.
-/
import Derived.Test.YtpgoemlnjocmhaaDoorLexU
namespace Go.Proofs.YtpgoemlnjocmhaaDoor.Lex
open Go.RowKit Go.Proofs.YtpgoemlnjocmhaaDoorW.PrintWords
set_option linter.unusedVariables false
set_option linter.unusedSimpArgs false

theorem cellsOf_get (l : List Tok) : ∀ (k : Nat) (h : k < l.length), (cellsOf l)[k * 2]? = some (.int .i64 l[k].1) ∧ (cellsOf l)[k * 2 + 1]? = some (.string l[k].2) := by
  induction l with
  | nil => intro k h; simp at h
  | cons t l ih =>
    intro k h
    cases k with
    | zero => exact ⟨rfl, rfl⟩
    | succ k =>
      have := ih k (by simpa using h)
      have e : cellsOf (t :: l) = .int .i64 t.1 :: .string t.2 :: cellsOf l := rfl
      rw [e, show (k + 1) * 2 = k * 2 + 1 + 1 by omega]
      simpa using this
/-- A row of tokens that is there to be read. -/
def TokRow (w : World) (v : Value) (l : List Tok) : Prop :=
  ∃ A c, v = .slice A l.length c ∧ ∀ k (h : k < l.length), ∃ x : Addr, A = some x ∧ w.cell? (x.add (k * 2)) = some (.int .i64 l[k].1) ∧ w.cell? ⟨(x.add (k * 2)).block, (x.add (k * 2)).off + 1, none⟩ = some (.string l[k].2)
theorem TokRow.of {w : World} {B : Nat} {v : Value} {l : List Tok} (h : w.ownsRow B 48 2 v l.length (cellsOf l)) : TokRow w v l := by
  obtain ⟨A, c, rfl⟩ := own_slice h
  refine ⟨A, c, rfl, fun k hk => ?_⟩
  obtain ⟨h1, h2⟩ := cellsOf_get l k hk
  rcases h.2 with ⟨he, hn⟩ | ⟨g, cap, cur, he, _⟩
  · omega
  · injection he with he1 he2 he3
    subst he1
    refine ⟨_, rfl, h.cells (g := g) rfl _ _ h1, ?_⟩
    have h3 := h.cells (g := g) rfl _ _ h2
    have ha : ∀ j, (⟨g, 0, none⟩ : Addr).add j = ⟨g, j, none⟩ := fun j => by unfold Addr.add; split <;> simp_all
    rw [ha] at h3 ⊢
    exact h3
theorem TokRow.below {w w1 : World} {v : Value} {l : List Tok} (h : TokRow w v l) (hb : Below w.heap.size w w1) : TokRow w1 v l := by
  obtain ⟨A, c, he, hc⟩ := h
  refine ⟨A, c, he, fun k hk => ?_⟩
  obtain ⟨x, h1, h2, h3⟩ := hc k hk
  exact ⟨x, h1, (hb.cell (World.block_lt_of_cell? w _ h2)).trans h2, (hb.cell (World.block_lt_of_cell? w _ h3)).trans h3⟩
set_option maxHeartbeats 8000000 in
set_option maxRecDepth 100000 in
theorem same_any (v u : Value) (l : List Tok) (w : World) (hl : l.length ≤ 4000) (hv : TokRow w v l) (hu : TokRow w u l) :
    Calls Tryd.prog 9 #[v, u] w fun e w' => e = .returned (.bool true) ∧ Below w.heap.size w w' := by
  obtain ⟨A, c, rfl, hA⟩ := hv
  obtain ⟨A2, c2, rfl, hA2⟩ := hu
  have HA := Lib.hid hA
  have HA2 := Lib.hid hA2
  clear hA hA2
  go_enter Tryd.func9, Tryd.ntmps9
  go_wp2
  go_loopw [5] (fun v5 wr => ∃ (k : Nat), v5 = .int .i64 k ∧ k ≤ l.length ∧ (∃ nq, wr = w.drewN nq)) (fun v5 _ => l.length - (intOf v5).toNat)
  case atStart => exact ⟨0, rfl, by omega, 0, rfl⟩
  case round =>
    obtain ⟨k, rfl, hk, nq, rfl⟩ := hrel
    by_cases h1 : k < l.length
    · obtain ⟨x, rfl, ha, hb⟩ := HA.out k h1
      obtain ⟨x2, rfl, ha2, hb2⟩ := HA2.out k h1
      generalize l[k].1 = n1 at *
      generalize l[k].2 = s1 at *
      go_wp2
      go_quiet (fail)
      go_wp2
      go_roundw
      case rel => exact ⟨k + 1, by go_num, by omega, _, by first | rfl | rw [World.drewN_drewN]⟩
      case measure => simp [intOf]; omega
    · go_wp2
      go_ret
      exact ⟨rfl, bel_drewN (Below.refl _ _) _⟩
end Go.Proofs.YtpgoemlnjocmhaaDoor.Lex
