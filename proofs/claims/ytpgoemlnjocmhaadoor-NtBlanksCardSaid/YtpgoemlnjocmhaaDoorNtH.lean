/-
  A part of the proof of NtBlanks (whatever the input, the law returns true and the input reads as it did): rows of triples. Conditions stand at each theorem.
-/
import Derived.Test.YtpgoemlnjocmhaaDoorNtG
import Derived.Test.YtpgoemlnjocmhaaDoorShelfSp
namespace Go.Proofs.YtpgoemlnjocmhaaDoor.Nt
open Go.RowKit Go.Proofs.YtpgoemlnjocmhaaDoor.Lex
open Go.Proofs.YtpgoemlnjocmhaaDoorW.PrintWords hiding blk_lt blk_cell blk_frozen
set_option linter.unusedVariables false
set_option linter.unusedSimpArgs false

set_option maxHeartbeats 1600000 in
set_option maxRecDepth 100000 in
theorem clone3_any (B : Nat) (v : Value) (out : List T3) (w : World) (hown : w.ownsRow B 42 12 v out.length (cells3 out)) (ho : out.length ≤ 20000) (hB : B ≤ w.heap.size) :
    Calls Tryd.prog 38 #[v] w fun e w' => ∃ v', e = .returned v' ∧ w'.ownsRow B 42 12 v' out.length (cells3 out) ∧ Below B w w' := by
  obtain ⟨i0, hi, hz0, hz1, hz2⟩ := info_parts info_tri
  have heq := fun (W : World) a n c => Lib.run_eql_slice_nil (P := Tryd.prog) W 34 42 a n c 0 0 Tryd.underlying34
  have HO := Lib.hid hown
  rcases hown.2 with ⟨rfl, hn⟩ | ⟨g, cap, cur, rfl, hBg, hblk, _⟩
  · clear hown
    go_enter Tryd.func38, Tryd.ntmps38
    go_wp2
    go_ret
    exact ⟨_, rfl, HO.out, Below.refl _ _⟩
  · have hcs := hown.cells (g := g) rfl
    have HC := Lib.hid hcs
    have hgl := blk_lt hblk
    have HN := Lib.hid ((w.ownsRow_lit (base := B) (e := 42) (size := 12) #[] 0 hB (by unfold maxLen; omega) rfl))
    clear hown hcs hblk
    go_enter Tryd.func38, Tryd.ntmps38
    go_wp2_with (at_builtin; refine wpList_append_own _ rfl _ _ 34 rfl B 42 i0 (.agg zs) 12 168 Tryd.underlying34 hi hz0 hz1 hz2 rfl (by decide) _ _ _ rfl HN.out ⟨g, 0, none⟩ out.length cap (cells3 out) rfl (cells3_len out) ?c1 (cells3_one out) ?c3 ?c4 ?c5 ?_)
    case c1 =>
      intro j u hj
      have h := HC.out j u hj
      have ha : (⟨g, 0, none⟩ : Addr).add j = ⟨g, j, none⟩ := by unfold Addr.add; split <;> simp_all
      rw [ha] at h
      exact h
    case c3 => unfold maxLen; omega
    case c4 => omega
    case c5 => first | omega | (simp; omega)
    intro v' w1 hown' hgrow _
    have HO2 := Lib.hid hown'
    have HB := Lib.hid (((Below.refl B w).alloc hB (.cells #[] 42 (0, 0))).grown hgrow (by simp; omega) (fun k hk => by simp [Value.ownBlock] at hk; omega))
    clear hown' hgrow
    go_wp2
    go_ret
    refine ⟨_, rfl, ?_, HB.out⟩
    have := HO2.out
    simpa using this

/-- A row that has no triple; a row that has one. -/
def RowNone (r : ByteArray) : Prop := r.size ≤ 16000 ∧ ∃ bl rest, r.data.toList = bl ++ rest ∧ (∀ c ∈ bl, blankB (c.toNat : Int) = true) ∧ (rest = [] ∨ ∃ l, rest = 35 :: l)
def RowTri (r : ByteArray) (t : T3) : Prop := r.size ≤ 16000 ∧ t.a.fine ∧ t.b.fine ∧ t.c.fine ∧ t.a.k ≠ 3 ∧ t.b.k = 1 ∧
  ∃ bl l1 r1 r2 r3 bl2 r4 bl3 r5 : Bs, r.data.toList = bl ++ l1 ∧ (∀ c ∈ bl, blankB (c.toNat : Int) = true) ∧ (∃ c l, l1 = c :: l ∧ blankB (c.toNat : Int) = false ∧ c ≠ 35) ∧
    Reads l1 t.a r1 ∧ Reads r1 t.b r2 ∧ Reads r2 t.c r3 ∧ r1.length ≤ 16000 ∧ r2.length ≤ 16000 ∧ r3.length ≤ 16000 ∧
    r3 = bl2 ++ 46 :: r4 ∧ (∀ c ∈ bl2, blankB (c.toNat : Int) = true) ∧ r4 = bl3 ++ r5 ∧ (∀ c ∈ bl3, blankB (c.toNat : Int) = true) ∧ (r5 = [] ∨ ∃ l, r5 = 35 :: l)
/-- A row that is a word. -/
def RowBad (r : ByteArray) : Prop := r.size ≤ 16000 ∧ ∃ c l, r.data.toList = c :: l ∧ (blankB (c.toNat : Int) = false ∧ c ≠ 60 ∧ c ≠ 95 ∧ c ≠ 34) ∧ c ≠ 35
/-- What a row tells. -/
def RowIs (r : ByteArray) : Option T3 → Prop
  | none => RowNone r
  | some t => RowTri r t
theorem row_none (g : Nat) (s : ByteArray) (m : Int) (w : World) (hS : Line w g s 0) (h : RowIs s none) :
    Calls Tryd.prog 37 #[.pointer (some ⟨g, 0, none⟩)] w fun e w' => e = .returned (.tuple #[.agg zs, .bool false]) ∧ (∃ s', Line w' g s' 0) ∧ Mut g w w' := by
  obtain ⟨hz, bl, rest, h1, h2, h3⟩ := h
  exact triple_none g s w hS hz bl rest h1 h2 h3
theorem row_some (g : Nat) (s : ByteArray) (m : Int) (w : World) (t : T3) (hS : Line w g s 0) (h0 : 0 < g) (hm : w.cell? ⟨0, 0, none⟩ = some (.int .i64 m)) (h : RowIs s (some t)) :
    Calls Tryd.prog 37 #[.pointer (some ⟨g, 0, none⟩)] w fun e w' => e = .returned (.tuple #[.agg (triC t.a t.b t.c), .bool true]) ∧ (∃ s', Line w' g s' 0) ∧ Mut g w w' := by
  obtain ⟨hz, f1, f2, f3, k1, k2, bl, l1, r1, r2, r3, bl2, r4, bl3, r5, q1, q2, q3, q4, q5, q6, q7, q8, q9, q10, q11, q12, q13, q14⟩ := h
  exact triple_ok g s m w hS hz h0 hm bl l1 r1 r2 r3 bl2 r4 bl3 r5 t.a t.b t.c q1 q2 q3 q4 q5 q6 q7 q8 q9 q10 q11 q12 q13 q14 f1 f2 f3 k1 k2
theorem row_bad (g : Nat) (s : ByteArray) (w : World) (hS : Line w g s 0) (h : RowBad s) :
    Calls Tryd.prog 37 #[.pointer (some ⟨g, 0, none⟩)] w fun e w' => e = .returned (.tuple #[.agg zs, .bool false]) ∧ (∃ s', Line w' g s' 6) ∧ Mut g w w' := by
  obtain ⟨hz, c, l, h1, h2, h3⟩ := h
  exact triple_bad g s w hS hz c l h1 h2 h3
end Go.Proofs.YtpgoemlnjocmhaaDoor.Nt
