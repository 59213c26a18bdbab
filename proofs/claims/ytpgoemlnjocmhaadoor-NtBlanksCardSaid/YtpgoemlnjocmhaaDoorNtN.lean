/-
  A part of the proof of NtBlanks (whatever the input, the law returns true and the input reads as it did): a triple made of a raw one is fine. Conditions stand at each theorem.
-/
import Derived.Test.YtpgoemlnjocmhaaDoorNtM
import Derived.Test.YtpgoemlnjocmhaaDoorTrmD
import Derived.Deep.RegionHeld3
import Derived.Deep.DrawnRows
namespace Go.Proofs.YtpgoemlnjocmhaaDoor.Nt
open Go.RowKit Go.Proofs.YtpgoemlnjocmhaaDoor.Lex
open Go.Proofs.YtpgoemlnjocmhaaDoorW.PrintWords hiding blk_lt blk_cell blk_frozen
set_option linter.unusedVariables false
set_option linter.unusedSimpArgs false

/-- A raw term: no text of it is too great. -/
def T.small (t : T) : Prop := t.s.length ≤ 140737488351232 ∧ t.la.length ≤ 140737488351232 ∧ t.ty.length ≤ 140737488351232
def T3.small (t : T3) : Prop := t.a.small ∧ t.b.small ∧ t.c.small
def GoodPost (w : World) (e : Ending) (w' : World) : Prop := ∃ t : T, t.fine ∧ e = .returned (.agg #[.int .i64 t.k, .string ⟨t.s.toArray⟩, .string ⟨t.la.toArray⟩, .string ⟨t.ty.toArray⟩]) ∧ Below w.heap.size w w'
theorem good6_any (t : T) (w : World) (h : t.small) :
    Calls Tryd.prog 66 #[.agg #[.int .i64 t.k, .string ⟨t.s.toArray⟩, .string ⟨t.la.toArray⟩, .string ⟨t.ty.toArray⟩]] w (GoodPost w) := by
  obtain ⟨k, s, la, ty⟩ := t
  obtain ⟨h1, h2, h3⟩ := h
  have z1 := size_of s
  have z2 := size_of la
  have z3 := size_of ty
  have a1 : (⟨s.toArray⟩ : ByteArray).size ≤ 140737488351232 := by rw [z1]; exact h1
  have a2 : (⟨la.toArray⟩ : ByteArray).size ≤ 140737488351232 := by rw [z2]; exact h2
  have a3 : (⟨ty.toArray⟩ : ByteArray).size ≤ 140737488351232 := by rw [z3]; exact h3
  have h4 : k % 5 = 0 ∨ k % 5 = 1 ∨ k % 5 = 2 ∨ k % 5 = 3 ∨ k % 5 = 4 := by omega
  have h5 : (((⟨la.toArray⟩ : ByteArray).size : Int) + (⟨ty.toArray⟩ : ByteArray).size) % 5 = 0 ∨ (((⟨la.toArray⟩ : ByteArray).size : Int) + (⟨ty.toArray⟩ : ByteArray).size) % 5 = 1 ∨ (((⟨la.toArray⟩ : ByteArray).size : Int) + (⟨ty.toArray⟩ : ByteArray).size) % 5 = 2 ∨ (((⟨la.toArray⟩ : ByteArray).size : Int) + (⟨ty.toArray⟩ : ByteArray).size) % 5 = 3 ∨ (((⟨la.toArray⟩ : ByteArray).size : Int) + (⟨ty.toArray⟩ : ByteArray).size) % 5 = 4 := by omega
  show Calls _ _ _ _ (fun e w' => ∃ t : T, t.fine ∧ e = .returned t.val ∧ Below w.heap.size w w')
  rcases h4 with h4 | h4 | h4 | h4
  · exact good6_iri k _ _ _ w a1 (.inl h4)
  · exact good6_iri k _ _ _ w a1 (.inr h4)
  · exact good6_blank k _ _ _ w a1 h4
  · rcases h5 with h5 | h5 | h5 | h5 | h5
    · exact good6_lit0 k _ _ _ w a1 a2 a3 h4 h5
    · exact good6_lit1 k _ _ _ w a1 a2 a3 h4 h5
    · exact good6_lit2 k _ _ _ w a1 a2 a3 h4 h5
    · exact good6_lit3 k _ _ _ w a1 a2 a3 h4 h5
    · exact good6_lit4 k _ _ _ w a1 a2 a3 h4 h5
def T3.ok (t : T3) : Prop := t.a.fine ∧ t.b.fine ∧ t.c.fine ∧ t.a.k ≠ 3 ∧ t.b.k = 1
def TriPost (w : World) (e : Ending) (w' : World) : Prop := ∃ t : T3, t.ok ∧ e = .returned (.agg (triC t.a t.b t.c)) ∧ Below w.heap.size w w'
def BoolPost (w : World) (e : Ending) (w' : World) : Prop := ∃ b : Bool, e = .returned (.bool b) ∧ Below w.heap.size w w'
set_option maxHeartbeats 1600000 in
set_option maxRecDepth 100000 in
theorem few6_any (t : T) (w : World) (h : t.small) : Calls Tryd.prog 31 #[.agg #[.int .i64 t.k, .string ⟨t.s.toArray⟩, .string ⟨t.la.toArray⟩, .string ⟨t.ty.toArray⟩]] w (BoolPost w) := by
  obtain ⟨k, s, la, ty⟩ := t
  obtain ⟨h1, h2, h3⟩ := h
  simp only at h1 h2 h3 ⊢
  have z1 := size_of s
  have z2 := size_of la
  have z3 := size_of ty
  generalize (⟨s.toArray⟩ : ByteArray) = sb at *
  generalize (⟨la.toArray⟩ : ByteArray) = lb at *
  generalize (⟨ty.toArray⟩ : ByteArray) = tb at *
  have a1 : sb.size ≤ 140737488351232 := by rw [z1]; exact h1
  have a2 : lb.size ≤ 140737488351232 := by rw [z2]; exact h2
  have a3 : tb.size ≤ 140737488351232 := by rw [z3]; exact h3
  clear z1 z2 z3 h1 h2 h3
  by_cases c1 : (sb.size : Int) ≤ 100 <;> by_cases c2 : (lb.size : Int) ≤ 20 <;> by_cases c3 : (tb.size : Int) ≤ 100
  all_goals
    go_enter Tryd.func31, Tryd.ntmps31
    go_wp2
    go_ret
    exact ⟨_, rfl, (Below.refl _ w).alloc (Nat.le_refl _) _⟩
/-- The twelve cells of a block that holds a triple. -/
def Holds12 (w : World) (g : Nat) (t : T3) : Prop := w.heap[g]? = some (.cells (triC t.a t.b t.c) 42 (0, 0))
theorem Holds12.below {w w' : World} {g : Nat} {t : T3} (h : Holds12 w g t) (hb : Below w.heap.size w w') : Holds12 w' g t := by
  unfold Holds12; rw [hb.block g (blk_lt h)]; exact h
theorem Holds12.cells {w : World} {g : Nat} {t : T3} (h : Holds12 w g t) : 
    w.cell? ⟨g, 0, none⟩ = some (.int .i64 t.a.k) ∧ w.cell? ⟨g, 1, none⟩ = some (.string ⟨t.a.s.toArray⟩) ∧ w.cell? ⟨g, 2, none⟩ = some (.string ⟨t.a.la.toArray⟩) ∧ w.cell? ⟨g, 3, none⟩ = some (.string ⟨t.a.ty.toArray⟩) ∧
    w.cell? ⟨g, 4, none⟩ = some (.int .i64 t.b.k) ∧ w.cell? ⟨g, 5, none⟩ = some (.string ⟨t.b.s.toArray⟩) ∧ w.cell? ⟨g, 6, none⟩ = some (.string ⟨t.b.la.toArray⟩) ∧ w.cell? ⟨g, 7, none⟩ = some (.string ⟨t.b.ty.toArray⟩) ∧
    w.cell? ⟨g, 8, none⟩ = some (.int .i64 t.c.k) ∧ w.cell? ⟨g, 9, none⟩ = some (.string ⟨t.c.s.toArray⟩) ∧ w.cell? ⟨g, 10, none⟩ = some (.string ⟨t.c.la.toArray⟩) ∧ w.cell? ⟨g, 11, none⟩ = some (.string ⟨t.c.ty.toArray⟩) :=
  ⟨blk_cell h 0, blk_cell h 1, blk_cell h 2, blk_cell h 3, blk_cell h 4, blk_cell h 5, blk_cell h 6, blk_cell h 7, blk_cell h 8, blk_cell h 9, blk_cell h 10, blk_cell h 11⟩

theorem bcell {W w1 : World} (hb : Below W.heap.size W w1) : (∀ b o, b < W.heap.size → w1.cell? ⟨b, o, none⟩ = W.cell? ⟨b, o, none⟩) ∧ (∀ b o, b < W.heap.size → w1.frozen? ⟨b, o, none⟩ = W.frozen? ⟨b, o, none⟩) :=
  ⟨fun b o h => hb.cell (p := ⟨b, o, none⟩) h, fun b o h => hb.frozen (p := ⟨b, o, none⟩) h⟩
def Z12 (w : World) (g : Nat) : Prop := w.heap[g]? = some (.cells zs 42 (0, 0))
theorem Z12.below {w w' : World} {g : Nat} (h : Z12 w g) (hb : Below w.heap.size w w') : Z12 w' g := by
  unfold Z12; rw [hb.block g (blk_lt h)]; exact h
theorem zeroC {W w1 : World} (hb : Below (W.alloc (.cells zs 42 (0, 0))).heap.size (W.alloc (.cells zs 42 (0, 0))) w1) : Z12 w1 W.heap.size := by
  unfold Z12; rw [hb.block _ (by simp)]; exact heap_alloc_new W _
theorem Z12.cells {w : World} {g : Nat} (h : Z12 w g) : Z12 w g ∧
    w.cell? ⟨g, 0, none⟩ = some (.int .i64 0) ∧ w.cell? ⟨g, 1, none⟩ = some (.string ⟨#[]⟩) ∧ w.cell? ⟨g, 2, none⟩ = some (.string ⟨#[]⟩) ∧ w.cell? ⟨g, 3, none⟩ = some (.string ⟨#[]⟩) ∧
    w.cell? ⟨g, 4, none⟩ = some (.int .i64 0) ∧ w.cell? ⟨g, 5, none⟩ = some (.string ⟨#[]⟩) ∧ w.cell? ⟨g, 6, none⟩ = some (.string ⟨#[]⟩) ∧ w.cell? ⟨g, 7, none⟩ = some (.string ⟨#[]⟩) ∧
    w.cell? ⟨g, 8, none⟩ = some (.int .i64 0) ∧ w.cell? ⟨g, 9, none⟩ = some (.string ⟨#[]⟩) ∧ w.cell? ⟨g, 10, none⟩ = some (.string ⟨#[]⟩) ∧ w.cell? ⟨g, 11, none⟩ = some (.string ⟨#[]⟩) ∧ ∀ j, w.frozen? ⟨g, j, none⟩ = false :=
  ⟨h, blk_cell h 0, blk_cell h 1, blk_cell h 2, blk_cell h 3, blk_cell h 4, blk_cell h 5, blk_cell h 6, blk_cell h 7, blk_cell h 8, blk_cell h 9, blk_cell h 10, blk_cell h 11, blk_frozen h⟩
theorem zeroK {W w1 : World} {G : Prop} (hb : Below (W.alloc (.cells zs 42 (0, 0))).heap.size (W.alloc (.cells zs 42 (0, 0))) w1) (h : (Z12 w1 W.heap.size ∧ w1.cell? ⟨W.heap.size, 0, none⟩ = some (.int .i64 0) ∧ w1.cell? ⟨W.heap.size, 1, none⟩ = some (.string ⟨#[]⟩) ∧ w1.cell? ⟨W.heap.size, 2, none⟩ = some (.string ⟨#[]⟩) ∧ w1.cell? ⟨W.heap.size, 3, none⟩ = some (.string ⟨#[]⟩) ∧ w1.cell? ⟨W.heap.size, 4, none⟩ = some (.int .i64 0) ∧ w1.cell? ⟨W.heap.size, 5, none⟩ = some (.string ⟨#[]⟩) ∧ w1.cell? ⟨W.heap.size, 6, none⟩ = some (.string ⟨#[]⟩) ∧ w1.cell? ⟨W.heap.size, 7, none⟩ = some (.string ⟨#[]⟩) ∧ w1.cell? ⟨W.heap.size, 8, none⟩ = some (.int .i64 0) ∧ w1.cell? ⟨W.heap.size, 9, none⟩ = some (.string ⟨#[]⟩) ∧ w1.cell? ⟨W.heap.size, 10, none⟩ = some (.string ⟨#[]⟩) ∧ w1.cell? ⟨W.heap.size, 11, none⟩ = some (.string ⟨#[]⟩) ∧ ∀ j, w1.frozen? ⟨W.heap.size, j, none⟩ = false) → G) : G := h (zeroC hb).cells
theorem zeroI {w w1 : World} {A o : Obj} {G : Prop} (hb : Below (((w.alloc A).alloc o).alloc (.cells zs 42 (0, 0))).drew.heap.size (((w.alloc A).alloc o).alloc (.cells zs 42 (0, 0))).drew w1) (h : (Z12 w1 (w.heap.size + 1 + 1) ∧ w1.cell? ⟨w.heap.size + 1 + 1, 0, none⟩ = some (.int .i64 0) ∧ w1.cell? ⟨w.heap.size + 1 + 1, 1, none⟩ = some (.string ⟨#[]⟩) ∧ w1.cell? ⟨w.heap.size + 1 + 1, 2, none⟩ = some (.string ⟨#[]⟩) ∧ w1.cell? ⟨w.heap.size + 1 + 1, 3, none⟩ = some (.string ⟨#[]⟩) ∧ w1.cell? ⟨w.heap.size + 1 + 1, 4, none⟩ = some (.int .i64 0) ∧ w1.cell? ⟨w.heap.size + 1 + 1, 5, none⟩ = some (.string ⟨#[]⟩) ∧ w1.cell? ⟨w.heap.size + 1 + 1, 6, none⟩ = some (.string ⟨#[]⟩) ∧ w1.cell? ⟨w.heap.size + 1 + 1, 7, none⟩ = some (.string ⟨#[]⟩) ∧ w1.cell? ⟨w.heap.size + 1 + 1, 8, none⟩ = some (.int .i64 0) ∧ w1.cell? ⟨w.heap.size + 1 + 1, 9, none⟩ = some (.string ⟨#[]⟩) ∧ w1.cell? ⟨w.heap.size + 1 + 1, 10, none⟩ = some (.string ⟨#[]⟩) ∧ w1.cell? ⟨w.heap.size + 1 + 1, 11, none⟩ = some (.string ⟨#[]⟩) ∧ ∀ j, w1.frozen? ⟨w.heap.size + 1 + 1, j, none⟩ = false) → G) : G := by
  have hs : ((w.alloc A).alloc o).heap.size = w.heap.size + 1 + 1 := by simp
  refine h (Z12.cells (?_ : Z12 w1 (w.heap.size + 1 + 1)))
  rw [← hs]
  exact zeroC (W := (w.alloc A).alloc o) ⟨hb.os, hb.tape, hb.output, hb.size, hb.block⟩
theorem zeroL {W w1 : World} {g : Nat} {G : Prop} (hz : Z12 W g) (hb : Below W.heap.size W w1) (h : (Z12 w1 g ∧ w1.cell? ⟨g, 0, none⟩ = some (.int .i64 0) ∧ w1.cell? ⟨g, 1, none⟩ = some (.string ⟨#[]⟩) ∧ w1.cell? ⟨g, 2, none⟩ = some (.string ⟨#[]⟩) ∧ w1.cell? ⟨g, 3, none⟩ = some (.string ⟨#[]⟩) ∧ w1.cell? ⟨g, 4, none⟩ = some (.int .i64 0) ∧ w1.cell? ⟨g, 5, none⟩ = some (.string ⟨#[]⟩) ∧ w1.cell? ⟨g, 6, none⟩ = some (.string ⟨#[]⟩) ∧ w1.cell? ⟨g, 7, none⟩ = some (.string ⟨#[]⟩) ∧ w1.cell? ⟨g, 8, none⟩ = some (.int .i64 0) ∧ w1.cell? ⟨g, 9, none⟩ = some (.string ⟨#[]⟩) ∧ w1.cell? ⟨g, 10, none⟩ = some (.string ⟨#[]⟩) ∧ w1.cell? ⟨g, 11, none⟩ = some (.string ⟨#[]⟩) ∧ ∀ j, w1.frozen? ⟨g, j, none⟩ = false) → G) : G := h (hz.below hb).cells
theorem keepB {w W0 W w1 : World} {c0 c1 c2 c3 c4 c5 c6 c7 c8 c9 c10 c11 : Value} (h : W.cell? ⟨w.heap.size, 0, none⟩ = some c0 ∧ W.cell? ⟨w.heap.size, 1, none⟩ = some c1 ∧ W.cell? ⟨w.heap.size, 2, none⟩ = some c2 ∧ W.cell? ⟨w.heap.size, 3, none⟩ = some c3 ∧ W.cell? ⟨w.heap.size, 4, none⟩ = some c4 ∧ W.cell? ⟨w.heap.size, 5, none⟩ = some c5 ∧ W.cell? ⟨w.heap.size, 6, none⟩ = some c6 ∧ W.cell? ⟨w.heap.size, 7, none⟩ = some c7 ∧ W.cell? ⟨w.heap.size, 8, none⟩ = some c8 ∧ W.cell? ⟨w.heap.size, 9, none⟩ = some c9 ∧ W.cell? ⟨w.heap.size, 10, none⟩ = some c10 ∧ W.cell? ⟨w.heap.size, 11, none⟩ = some c11 ∧ Below (w.heap.size + 2) W0 W ∧ w.heap.size + 2 ≤ W.heap.size) (hb : Below (w.heap.size + 2) W w1) :
    w1.cell? ⟨w.heap.size, 0, none⟩ = some c0 ∧ w1.cell? ⟨w.heap.size, 1, none⟩ = some c1 ∧ w1.cell? ⟨w.heap.size, 2, none⟩ = some c2 ∧ w1.cell? ⟨w.heap.size, 3, none⟩ = some c3 ∧ w1.cell? ⟨w.heap.size, 4, none⟩ = some c4 ∧ w1.cell? ⟨w.heap.size, 5, none⟩ = some c5 ∧ w1.cell? ⟨w.heap.size, 6, none⟩ = some c6 ∧ w1.cell? ⟨w.heap.size, 7, none⟩ = some c7 ∧ w1.cell? ⟨w.heap.size, 8, none⟩ = some c8 ∧ w1.cell? ⟨w.heap.size, 9, none⟩ = some c9 ∧ w1.cell? ⟨w.heap.size, 10, none⟩ = some c10 ∧ w1.cell? ⟨w.heap.size, 11, none⟩ = some c11 ∧ Below (w.heap.size + 2) W0 w1 ∧ w.heap.size + 2 ≤ w1.heap.size := by
  obtain ⟨h0, h1, h2, h3, h4, h5, h6, h7, h8, h9, h10, h11, hB, hl⟩ := h
  have k : ∀ j : Nat, w1.cell? ⟨w.heap.size, j, none⟩ = W.cell? ⟨w.heap.size, j, none⟩ := fun j => hb.cell (p := ⟨w.heap.size, j, none⟩) (by show w.heap.size < w.heap.size + 2; omega)
  have hs := hb.size
  rw [k, k, k, k, k, k, k, k, k, k, k, k]
  exact ⟨h0, h1, h2, h3, h4, h5, h6, h7, h8, h9, h10, h11, hB.trans hb, by omega⟩
theorem keepC {w W0 W w1 : World} {c0 c1 c2 c3 c4 c5 c6 c7 c8 c9 c10 c11 : Value} (h : W.cell? ⟨w.heap.size, 0, none⟩ = some c0 ∧ W.cell? ⟨w.heap.size, 1, none⟩ = some c1 ∧ W.cell? ⟨w.heap.size, 2, none⟩ = some c2 ∧ W.cell? ⟨w.heap.size, 3, none⟩ = some c3 ∧ W.cell? ⟨w.heap.size, 4, none⟩ = some c4 ∧ W.cell? ⟨w.heap.size, 5, none⟩ = some c5 ∧ W.cell? ⟨w.heap.size, 6, none⟩ = some c6 ∧ W.cell? ⟨w.heap.size, 7, none⟩ = some c7 ∧ W.cell? ⟨w.heap.size, 8, none⟩ = some c8 ∧ W.cell? ⟨w.heap.size, 9, none⟩ = some c9 ∧ W.cell? ⟨w.heap.size, 10, none⟩ = some c10 ∧ W.cell? ⟨w.heap.size, 11, none⟩ = some c11 ∧ Below (w.heap.size + 2) W0 W ∧ w.heap.size + 2 ≤ W.heap.size) (hb : Below W.heap.size W w1) :
    w1.cell? ⟨w.heap.size, 0, none⟩ = some c0 ∧ w1.cell? ⟨w.heap.size, 1, none⟩ = some c1 ∧ w1.cell? ⟨w.heap.size, 2, none⟩ = some c2 ∧ w1.cell? ⟨w.heap.size, 3, none⟩ = some c3 ∧ w1.cell? ⟨w.heap.size, 4, none⟩ = some c4 ∧ w1.cell? ⟨w.heap.size, 5, none⟩ = some c5 ∧ w1.cell? ⟨w.heap.size, 6, none⟩ = some c6 ∧ w1.cell? ⟨w.heap.size, 7, none⟩ = some c7 ∧ w1.cell? ⟨w.heap.size, 8, none⟩ = some c8 ∧ w1.cell? ⟨w.heap.size, 9, none⟩ = some c9 ∧ w1.cell? ⟨w.heap.size, 10, none⟩ = some c10 ∧ w1.cell? ⟨w.heap.size, 11, none⟩ = some c11 ∧ Below (w.heap.size + 2) W0 w1 ∧ w.heap.size + 2 ≤ w1.heap.size := keepB h (hb.mono h.2.2.2.2.2.2.2.2.2.2.2.2.2)
theorem keepA {w W0 W : World} {c0 c1 c2 c3 c4 c5 c6 c7 c8 c9 c10 c11 : Value} (o : Obj) (h : W.cell? ⟨w.heap.size, 0, none⟩ = some c0 ∧ W.cell? ⟨w.heap.size, 1, none⟩ = some c1 ∧ W.cell? ⟨w.heap.size, 2, none⟩ = some c2 ∧ W.cell? ⟨w.heap.size, 3, none⟩ = some c3 ∧ W.cell? ⟨w.heap.size, 4, none⟩ = some c4 ∧ W.cell? ⟨w.heap.size, 5, none⟩ = some c5 ∧ W.cell? ⟨w.heap.size, 6, none⟩ = some c6 ∧ W.cell? ⟨w.heap.size, 7, none⟩ = some c7 ∧ W.cell? ⟨w.heap.size, 8, none⟩ = some c8 ∧ W.cell? ⟨w.heap.size, 9, none⟩ = some c9 ∧ W.cell? ⟨w.heap.size, 10, none⟩ = some c10 ∧ W.cell? ⟨w.heap.size, 11, none⟩ = some c11 ∧ Below (w.heap.size + 2) W0 W ∧ w.heap.size + 2 ≤ W.heap.size) :
    (W.alloc o).cell? ⟨w.heap.size, 0, none⟩ = some c0 ∧ (W.alloc o).cell? ⟨w.heap.size, 1, none⟩ = some c1 ∧ (W.alloc o).cell? ⟨w.heap.size, 2, none⟩ = some c2 ∧ (W.alloc o).cell? ⟨w.heap.size, 3, none⟩ = some c3 ∧ (W.alloc o).cell? ⟨w.heap.size, 4, none⟩ = some c4 ∧ (W.alloc o).cell? ⟨w.heap.size, 5, none⟩ = some c5 ∧ (W.alloc o).cell? ⟨w.heap.size, 6, none⟩ = some c6 ∧ (W.alloc o).cell? ⟨w.heap.size, 7, none⟩ = some c7 ∧ (W.alloc o).cell? ⟨w.heap.size, 8, none⟩ = some c8 ∧ (W.alloc o).cell? ⟨w.heap.size, 9, none⟩ = some c9 ∧ (W.alloc o).cell? ⟨w.heap.size, 10, none⟩ = some c10 ∧ (W.alloc o).cell? ⟨w.heap.size, 11, none⟩ = some c11 ∧ Below (w.heap.size + 2) W0 (W.alloc o) ∧ w.heap.size + 2 ≤ (W.alloc o).heap.size := keepC h ((Below.refl _ _).alloc (Nat.le_refl _) _)
theorem keepZ {w W0 W : World} {c0 c1 c2 c3 c4 c5 c6 c7 c8 c9 c10 c11 : Value} (o o' : Obj) (hz : w.heap.size + 2 ≤ W.heap.size) (h : (W.alloc o).cell? ⟨w.heap.size, 0, none⟩ = some c0 ∧ (W.alloc o).cell? ⟨w.heap.size, 1, none⟩ = some c1 ∧ (W.alloc o).cell? ⟨w.heap.size, 2, none⟩ = some c2 ∧ (W.alloc o).cell? ⟨w.heap.size, 3, none⟩ = some c3 ∧ (W.alloc o).cell? ⟨w.heap.size, 4, none⟩ = some c4 ∧ (W.alloc o).cell? ⟨w.heap.size, 5, none⟩ = some c5 ∧ (W.alloc o).cell? ⟨w.heap.size, 6, none⟩ = some c6 ∧ (W.alloc o).cell? ⟨w.heap.size, 7, none⟩ = some c7 ∧ (W.alloc o).cell? ⟨w.heap.size, 8, none⟩ = some c8 ∧ (W.alloc o).cell? ⟨w.heap.size, 9, none⟩ = some c9 ∧ (W.alloc o).cell? ⟨w.heap.size, 10, none⟩ = some c10 ∧ (W.alloc o).cell? ⟨w.heap.size, 11, none⟩ = some c11 ∧ Below (w.heap.size + 2) W0 (W.alloc o) ∧ w.heap.size + 2 ≤ (W.alloc o).heap.size) :
    (W.alloc o').cell? ⟨w.heap.size, 0, none⟩ = some c0 ∧ (W.alloc o').cell? ⟨w.heap.size, 1, none⟩ = some c1 ∧ (W.alloc o').cell? ⟨w.heap.size, 2, none⟩ = some c2 ∧ (W.alloc o').cell? ⟨w.heap.size, 3, none⟩ = some c3 ∧ (W.alloc o').cell? ⟨w.heap.size, 4, none⟩ = some c4 ∧ (W.alloc o').cell? ⟨w.heap.size, 5, none⟩ = some c5 ∧ (W.alloc o').cell? ⟨w.heap.size, 6, none⟩ = some c6 ∧ (W.alloc o').cell? ⟨w.heap.size, 7, none⟩ = some c7 ∧ (W.alloc o').cell? ⟨w.heap.size, 8, none⟩ = some c8 ∧ (W.alloc o').cell? ⟨w.heap.size, 9, none⟩ = some c9 ∧ (W.alloc o').cell? ⟨w.heap.size, 10, none⟩ = some c10 ∧ (W.alloc o').cell? ⟨w.heap.size, 11, none⟩ = some c11 ∧ Below (w.heap.size + 2) W0 (W.alloc o') ∧ w.heap.size + 2 ≤ (W.alloc o').heap.size := by
  have hl2 : (W.alloc o).heap.size = W.heap.size + 1 := by simp
  have hl3 : (W.alloc o').heap.size = W.heap.size + 1 := by simp
  have hk : ∀ k, k < w.heap.size + 2 → (W.alloc o').heap[k]? = (W.alloc o).heap[k]? := fun k hk => by
    rw [Below.heap_alloc _ _ _ (by omega), Below.heap_alloc _ _ _ (by omega)]
  have hb : Below (w.heap.size + 2) (W.alloc o) (W.alloc o') := ⟨rfl, rfl, rfl, by omega, hk⟩
  exact keepB h hb
theorem keepS {w W0 W : World} {c0 c1 c2 c3 c4 c5 c6 c7 c8 c9 c10 c11 : Value} (g : Nat) (v0 v1 v2 v3 v4 v5 v6 v7 v8 v9 v10 v11 : Value) (h : W.cell? ⟨w.heap.size, 0, none⟩ = some c0 ∧ W.cell? ⟨w.heap.size, 1, none⟩ = some c1 ∧ W.cell? ⟨w.heap.size, 2, none⟩ = some c2 ∧ W.cell? ⟨w.heap.size, 3, none⟩ = some c3 ∧ W.cell? ⟨w.heap.size, 4, none⟩ = some c4 ∧ W.cell? ⟨w.heap.size, 5, none⟩ = some c5 ∧ W.cell? ⟨w.heap.size, 6, none⟩ = some c6 ∧ W.cell? ⟨w.heap.size, 7, none⟩ = some c7 ∧ W.cell? ⟨w.heap.size, 8, none⟩ = some c8 ∧ W.cell? ⟨w.heap.size, 9, none⟩ = some c9 ∧ W.cell? ⟨w.heap.size, 10, none⟩ = some c10 ∧ W.cell? ⟨w.heap.size, 11, none⟩ = some c11 ∧ Below (w.heap.size + 2) W0 W ∧ w.heap.size + 2 ≤ W.heap.size) (hg : w.heap.size + 2 ≤ g) :
    ((((((((((((W.setCell ⟨g, 0, none⟩ v0).setCell ⟨g, 1, none⟩ v1).setCell ⟨g, 2, none⟩ v2).setCell ⟨g, 3, none⟩ v3).setCell ⟨g, 4, none⟩ v4).setCell ⟨g, 5, none⟩ v5).setCell ⟨g, 6, none⟩ v6).setCell ⟨g, 7, none⟩ v7).setCell ⟨g, 8, none⟩ v8).setCell ⟨g, 9, none⟩ v9).setCell ⟨g, 10, none⟩ v10).setCell ⟨g, 11, none⟩ v11).cell? ⟨w.heap.size, 0, none⟩ = some c0 ∧ ((((((((((((W.setCell ⟨g, 0, none⟩ v0).setCell ⟨g, 1, none⟩ v1).setCell ⟨g, 2, none⟩ v2).setCell ⟨g, 3, none⟩ v3).setCell ⟨g, 4, none⟩ v4).setCell ⟨g, 5, none⟩ v5).setCell ⟨g, 6, none⟩ v6).setCell ⟨g, 7, none⟩ v7).setCell ⟨g, 8, none⟩ v8).setCell ⟨g, 9, none⟩ v9).setCell ⟨g, 10, none⟩ v10).setCell ⟨g, 11, none⟩ v11).cell? ⟨w.heap.size, 1, none⟩ = some c1 ∧ ((((((((((((W.setCell ⟨g, 0, none⟩ v0).setCell ⟨g, 1, none⟩ v1).setCell ⟨g, 2, none⟩ v2).setCell ⟨g, 3, none⟩ v3).setCell ⟨g, 4, none⟩ v4).setCell ⟨g, 5, none⟩ v5).setCell ⟨g, 6, none⟩ v6).setCell ⟨g, 7, none⟩ v7).setCell ⟨g, 8, none⟩ v8).setCell ⟨g, 9, none⟩ v9).setCell ⟨g, 10, none⟩ v10).setCell ⟨g, 11, none⟩ v11).cell? ⟨w.heap.size, 2, none⟩ = some c2 ∧ ((((((((((((W.setCell ⟨g, 0, none⟩ v0).setCell ⟨g, 1, none⟩ v1).setCell ⟨g, 2, none⟩ v2).setCell ⟨g, 3, none⟩ v3).setCell ⟨g, 4, none⟩ v4).setCell ⟨g, 5, none⟩ v5).setCell ⟨g, 6, none⟩ v6).setCell ⟨g, 7, none⟩ v7).setCell ⟨g, 8, none⟩ v8).setCell ⟨g, 9, none⟩ v9).setCell ⟨g, 10, none⟩ v10).setCell ⟨g, 11, none⟩ v11).cell? ⟨w.heap.size, 3, none⟩ = some c3 ∧ ((((((((((((W.setCell ⟨g, 0, none⟩ v0).setCell ⟨g, 1, none⟩ v1).setCell ⟨g, 2, none⟩ v2).setCell ⟨g, 3, none⟩ v3).setCell ⟨g, 4, none⟩ v4).setCell ⟨g, 5, none⟩ v5).setCell ⟨g, 6, none⟩ v6).setCell ⟨g, 7, none⟩ v7).setCell ⟨g, 8, none⟩ v8).setCell ⟨g, 9, none⟩ v9).setCell ⟨g, 10, none⟩ v10).setCell ⟨g, 11, none⟩ v11).cell? ⟨w.heap.size, 4, none⟩ = some c4 ∧ ((((((((((((W.setCell ⟨g, 0, none⟩ v0).setCell ⟨g, 1, none⟩ v1).setCell ⟨g, 2, none⟩ v2).setCell ⟨g, 3, none⟩ v3).setCell ⟨g, 4, none⟩ v4).setCell ⟨g, 5, none⟩ v5).setCell ⟨g, 6, none⟩ v6).setCell ⟨g, 7, none⟩ v7).setCell ⟨g, 8, none⟩ v8).setCell ⟨g, 9, none⟩ v9).setCell ⟨g, 10, none⟩ v10).setCell ⟨g, 11, none⟩ v11).cell? ⟨w.heap.size, 5, none⟩ = some c5 ∧ ((((((((((((W.setCell ⟨g, 0, none⟩ v0).setCell ⟨g, 1, none⟩ v1).setCell ⟨g, 2, none⟩ v2).setCell ⟨g, 3, none⟩ v3).setCell ⟨g, 4, none⟩ v4).setCell ⟨g, 5, none⟩ v5).setCell ⟨g, 6, none⟩ v6).setCell ⟨g, 7, none⟩ v7).setCell ⟨g, 8, none⟩ v8).setCell ⟨g, 9, none⟩ v9).setCell ⟨g, 10, none⟩ v10).setCell ⟨g, 11, none⟩ v11).cell? ⟨w.heap.size, 6, none⟩ = some c6 ∧ ((((((((((((W.setCell ⟨g, 0, none⟩ v0).setCell ⟨g, 1, none⟩ v1).setCell ⟨g, 2, none⟩ v2).setCell ⟨g, 3, none⟩ v3).setCell ⟨g, 4, none⟩ v4).setCell ⟨g, 5, none⟩ v5).setCell ⟨g, 6, none⟩ v6).setCell ⟨g, 7, none⟩ v7).setCell ⟨g, 8, none⟩ v8).setCell ⟨g, 9, none⟩ v9).setCell ⟨g, 10, none⟩ v10).setCell ⟨g, 11, none⟩ v11).cell? ⟨w.heap.size, 7, none⟩ = some c7 ∧ ((((((((((((W.setCell ⟨g, 0, none⟩ v0).setCell ⟨g, 1, none⟩ v1).setCell ⟨g, 2, none⟩ v2).setCell ⟨g, 3, none⟩ v3).setCell ⟨g, 4, none⟩ v4).setCell ⟨g, 5, none⟩ v5).setCell ⟨g, 6, none⟩ v6).setCell ⟨g, 7, none⟩ v7).setCell ⟨g, 8, none⟩ v8).setCell ⟨g, 9, none⟩ v9).setCell ⟨g, 10, none⟩ v10).setCell ⟨g, 11, none⟩ v11).cell? ⟨w.heap.size, 8, none⟩ = some c8 ∧ ((((((((((((W.setCell ⟨g, 0, none⟩ v0).setCell ⟨g, 1, none⟩ v1).setCell ⟨g, 2, none⟩ v2).setCell ⟨g, 3, none⟩ v3).setCell ⟨g, 4, none⟩ v4).setCell ⟨g, 5, none⟩ v5).setCell ⟨g, 6, none⟩ v6).setCell ⟨g, 7, none⟩ v7).setCell ⟨g, 8, none⟩ v8).setCell ⟨g, 9, none⟩ v9).setCell ⟨g, 10, none⟩ v10).setCell ⟨g, 11, none⟩ v11).cell? ⟨w.heap.size, 9, none⟩ = some c9 ∧ ((((((((((((W.setCell ⟨g, 0, none⟩ v0).setCell ⟨g, 1, none⟩ v1).setCell ⟨g, 2, none⟩ v2).setCell ⟨g, 3, none⟩ v3).setCell ⟨g, 4, none⟩ v4).setCell ⟨g, 5, none⟩ v5).setCell ⟨g, 6, none⟩ v6).setCell ⟨g, 7, none⟩ v7).setCell ⟨g, 8, none⟩ v8).setCell ⟨g, 9, none⟩ v9).setCell ⟨g, 10, none⟩ v10).setCell ⟨g, 11, none⟩ v11).cell? ⟨w.heap.size, 10, none⟩ = some c10 ∧ ((((((((((((W.setCell ⟨g, 0, none⟩ v0).setCell ⟨g, 1, none⟩ v1).setCell ⟨g, 2, none⟩ v2).setCell ⟨g, 3, none⟩ v3).setCell ⟨g, 4, none⟩ v4).setCell ⟨g, 5, none⟩ v5).setCell ⟨g, 6, none⟩ v6).setCell ⟨g, 7, none⟩ v7).setCell ⟨g, 8, none⟩ v8).setCell ⟨g, 9, none⟩ v9).setCell ⟨g, 10, none⟩ v10).setCell ⟨g, 11, none⟩ v11).cell? ⟨w.heap.size, 11, none⟩ = some c11 ∧ Below (w.heap.size + 2) W0 ((((((((((((W.setCell ⟨g, 0, none⟩ v0).setCell ⟨g, 1, none⟩ v1).setCell ⟨g, 2, none⟩ v2).setCell ⟨g, 3, none⟩ v3).setCell ⟨g, 4, none⟩ v4).setCell ⟨g, 5, none⟩ v5).setCell ⟨g, 6, none⟩ v6).setCell ⟨g, 7, none⟩ v7).setCell ⟨g, 8, none⟩ v8).setCell ⟨g, 9, none⟩ v9).setCell ⟨g, 10, none⟩ v10).setCell ⟨g, 11, none⟩ v11) ∧ w.heap.size + 2 ≤ ((((((((((((W.setCell ⟨g, 0, none⟩ v0).setCell ⟨g, 1, none⟩ v1).setCell ⟨g, 2, none⟩ v2).setCell ⟨g, 3, none⟩ v3).setCell ⟨g, 4, none⟩ v4).setCell ⟨g, 5, none⟩ v5).setCell ⟨g, 6, none⟩ v6).setCell ⟨g, 7, none⟩ v7).setCell ⟨g, 8, none⟩ v8).setCell ⟨g, 9, none⟩ v9).setCell ⟨g, 10, none⟩ v10).setCell ⟨g, 11, none⟩ v11).heap.size :=
  keepB h (((((((((((((Below.refl _ W).setCell (p := ⟨g, 0, none⟩) hg v0).setCell (p := ⟨g, 1, none⟩) hg v1).setCell (p := ⟨g, 2, none⟩) hg v2).setCell (p := ⟨g, 3, none⟩) hg v3).setCell (p := ⟨g, 4, none⟩) hg v4).setCell (p := ⟨g, 5, none⟩) hg v5).setCell (p := ⟨g, 6, none⟩) hg v6).setCell (p := ⟨g, 7, none⟩) hg v7).setCell (p := ⟨g, 8, none⟩) hg v8).setCell (p := ⟨g, 9, none⟩) hg v9).setCell (p := ⟨g, 10, none⟩) hg v10).setCell (p := ⟨g, 11, none⟩) hg v11)
theorem keepBel {w W0 W : World} {c0 c1 c2 c3 c4 c5 c6 c7 c8 c9 c10 c11 : Value} (h : W.cell? ⟨w.heap.size, 0, none⟩ = some c0 ∧ W.cell? ⟨w.heap.size, 1, none⟩ = some c1 ∧ W.cell? ⟨w.heap.size, 2, none⟩ = some c2 ∧ W.cell? ⟨w.heap.size, 3, none⟩ = some c3 ∧ W.cell? ⟨w.heap.size, 4, none⟩ = some c4 ∧ W.cell? ⟨w.heap.size, 5, none⟩ = some c5 ∧ W.cell? ⟨w.heap.size, 6, none⟩ = some c6 ∧ W.cell? ⟨w.heap.size, 7, none⟩ = some c7 ∧ W.cell? ⟨w.heap.size, 8, none⟩ = some c8 ∧ W.cell? ⟨w.heap.size, 9, none⟩ = some c9 ∧ W.cell? ⟨w.heap.size, 10, none⟩ = some c10 ∧ W.cell? ⟨w.heap.size, 11, none⟩ = some c11 ∧ Below (w.heap.size + 2) W0 W ∧ w.heap.size + 2 ≤ W.heap.size) : Below (w.heap.size + 2) W0 W := h.2.2.2.2.2.2.2.2.2.2.2.2.1
theorem keepI (w : World) (t : T3) (o : Obj) : ((w.alloc (.cells (triC t.a t.b t.c) 42 (0, 0))).alloc o).drew.cell? ⟨w.heap.size, 0, none⟩ = some (.int .i64 t.a.k) ∧ ((w.alloc (.cells (triC t.a t.b t.c) 42 (0, 0))).alloc o).drew.cell? ⟨w.heap.size, 1, none⟩ = some (.string ⟨t.a.s.toArray⟩) ∧ ((w.alloc (.cells (triC t.a t.b t.c) 42 (0, 0))).alloc o).drew.cell? ⟨w.heap.size, 2, none⟩ = some (.string ⟨t.a.la.toArray⟩) ∧ ((w.alloc (.cells (triC t.a t.b t.c) 42 (0, 0))).alloc o).drew.cell? ⟨w.heap.size, 3, none⟩ = some (.string ⟨t.a.ty.toArray⟩) ∧ ((w.alloc (.cells (triC t.a t.b t.c) 42 (0, 0))).alloc o).drew.cell? ⟨w.heap.size, 4, none⟩ = some (.int .i64 t.b.k) ∧ ((w.alloc (.cells (triC t.a t.b t.c) 42 (0, 0))).alloc o).drew.cell? ⟨w.heap.size, 5, none⟩ = some (.string ⟨t.b.s.toArray⟩) ∧ ((w.alloc (.cells (triC t.a t.b t.c) 42 (0, 0))).alloc o).drew.cell? ⟨w.heap.size, 6, none⟩ = some (.string ⟨t.b.la.toArray⟩) ∧ ((w.alloc (.cells (triC t.a t.b t.c) 42 (0, 0))).alloc o).drew.cell? ⟨w.heap.size, 7, none⟩ = some (.string ⟨t.b.ty.toArray⟩) ∧ ((w.alloc (.cells (triC t.a t.b t.c) 42 (0, 0))).alloc o).drew.cell? ⟨w.heap.size, 8, none⟩ = some (.int .i64 t.c.k) ∧ ((w.alloc (.cells (triC t.a t.b t.c) 42 (0, 0))).alloc o).drew.cell? ⟨w.heap.size, 9, none⟩ = some (.string ⟨t.c.s.toArray⟩) ∧ ((w.alloc (.cells (triC t.a t.b t.c) 42 (0, 0))).alloc o).drew.cell? ⟨w.heap.size, 10, none⟩ = some (.string ⟨t.c.la.toArray⟩) ∧ ((w.alloc (.cells (triC t.a t.b t.c) 42 (0, 0))).alloc o).drew.cell? ⟨w.heap.size, 11, none⟩ = some (.string ⟨t.c.ty.toArray⟩) ∧ Below (w.heap.size + 2) ((w.alloc (.cells (triC t.a t.b t.c) 42 (0, 0))).alloc o) ((w.alloc (.cells (triC t.a t.b t.c) 42 (0, 0))).alloc o).drew ∧ w.heap.size + 2 ≤ ((w.alloc (.cells (triC t.a t.b t.c) 42 (0, 0))).alloc o).drew.heap.size :=
  ⟨by simp, by simp, by simp, by simp, by simp, by simp, by simp, by simp, by simp, by simp, by simp, by simp, (Below.refl _ _).drew, by simp⟩
theorem keepI2 (w : World) (t : T3) (o o' : Obj) : (((w.alloc (.cells (triC t.a t.b t.c) 42 (0, 0))).alloc o).alloc o').drew.cell? ⟨w.heap.size, 0, none⟩ = some (.int .i64 t.a.k) ∧ (((w.alloc (.cells (triC t.a t.b t.c) 42 (0, 0))).alloc o).alloc o').drew.cell? ⟨w.heap.size, 1, none⟩ = some (.string ⟨t.a.s.toArray⟩) ∧ (((w.alloc (.cells (triC t.a t.b t.c) 42 (0, 0))).alloc o).alloc o').drew.cell? ⟨w.heap.size, 2, none⟩ = some (.string ⟨t.a.la.toArray⟩) ∧ (((w.alloc (.cells (triC t.a t.b t.c) 42 (0, 0))).alloc o).alloc o').drew.cell? ⟨w.heap.size, 3, none⟩ = some (.string ⟨t.a.ty.toArray⟩) ∧ (((w.alloc (.cells (triC t.a t.b t.c) 42 (0, 0))).alloc o).alloc o').drew.cell? ⟨w.heap.size, 4, none⟩ = some (.int .i64 t.b.k) ∧ (((w.alloc (.cells (triC t.a t.b t.c) 42 (0, 0))).alloc o).alloc o').drew.cell? ⟨w.heap.size, 5, none⟩ = some (.string ⟨t.b.s.toArray⟩) ∧ (((w.alloc (.cells (triC t.a t.b t.c) 42 (0, 0))).alloc o).alloc o').drew.cell? ⟨w.heap.size, 6, none⟩ = some (.string ⟨t.b.la.toArray⟩) ∧ (((w.alloc (.cells (triC t.a t.b t.c) 42 (0, 0))).alloc o).alloc o').drew.cell? ⟨w.heap.size, 7, none⟩ = some (.string ⟨t.b.ty.toArray⟩) ∧ (((w.alloc (.cells (triC t.a t.b t.c) 42 (0, 0))).alloc o).alloc o').drew.cell? ⟨w.heap.size, 8, none⟩ = some (.int .i64 t.c.k) ∧ (((w.alloc (.cells (triC t.a t.b t.c) 42 (0, 0))).alloc o).alloc o').drew.cell? ⟨w.heap.size, 9, none⟩ = some (.string ⟨t.c.s.toArray⟩) ∧ (((w.alloc (.cells (triC t.a t.b t.c) 42 (0, 0))).alloc o).alloc o').drew.cell? ⟨w.heap.size, 10, none⟩ = some (.string ⟨t.c.la.toArray⟩) ∧ (((w.alloc (.cells (triC t.a t.b t.c) 42 (0, 0))).alloc o).alloc o').drew.cell? ⟨w.heap.size, 11, none⟩ = some (.string ⟨t.c.ty.toArray⟩) ∧ Below (w.heap.size + 2) ((w.alloc (.cells (triC t.a t.b t.c) 42 (0, 0))).alloc o) (((w.alloc (.cells (triC t.a t.b t.c) 42 (0, 0))).alloc o).alloc o').drew ∧ w.heap.size + 2 ≤ (((w.alloc (.cells (triC t.a t.b t.c) 42 (0, 0))).alloc o).alloc o').drew.heap.size :=
  keepA o' (keepI w t o)
theorem fine_lit : T.fine ⟨2, [108, 105, 116], [], []⟩ := by
  right; left; exact ⟨rfl, rfl, rfl, by decide, by decide, by decide⟩
def litT : T := ⟨2, [108, 105, 116], [], []⟩
theorem set4a {w : World} {g : Nat} {t : T3} (h : Holds12 w g t) : Holds12 ((((w.setCell ⟨g, 0, none⟩ (.int .i64 2)).setCell ⟨g, 1, none⟩ (.string ⟨#[108, 105, 116]⟩)).setCell ⟨g, 2, none⟩ (.string ⟨#[]⟩)).setCell ⟨g, 3, none⟩ (.string ⟨#[]⟩)) g ⟨litT, t.b, t.c⟩ := by
  unfold Holds12
  exact blk_set (blk_set (blk_set (blk_set h 0 _) 1 _) 2 _) 3 _
def preT (c : UInt8) : T := ⟨1, [112, 58, c], [], []⟩
theorem set4b {w : World} {g : Nat} {t : T3} (c : UInt8) (h : Holds12 w g t) : Holds12 ((((w.setCell ⟨g, 4, none⟩ (.int .i64 1)).setCell ⟨g, 5, none⟩ (.string ⟨#[112, 58, c]⟩)).setCell ⟨g, 6, none⟩ (.string ⟨#[]⟩)).setCell ⟨g, 7, none⟩ (.string ⟨#[]⟩)) g ⟨t.a, preT c, t.c⟩ := by
  unfold Holds12
  exact blk_set (blk_set (blk_set (blk_set h 4 _) 5 _) 6 _) 7 _
theorem set4c {w : World} {g : Nat} {t : T3} (c : UInt8) (o : Obj) (s : ByteArray) (hs : s = ⟨#[112, 58, c]⟩) (h : Holds12 w g t) : Holds12 (((((w.setCell ⟨g, 4, none⟩ (.int .i64 1)).setCell ⟨g, 5, none⟩ (.string s)).setCell ⟨g, 6, none⟩ (.string ⟨#[]⟩)).setCell ⟨g, 7, none⟩ (.string ⟨#[]⟩)).alloc o) g ⟨t.a, preT c, t.c⟩ := by
  subst hs
  have h1 := set4b c h
  unfold Holds12 at h1 ⊢
  rw [Below.heap_alloc _ _ _ (blk_lt h1)]
  exact h1
theorem fine_pre (c : UInt8) (hc : c = 97 ∨ c = 98 ∨ c = 99) : (preT c).fine := by
  rcases hc with rfl | rfl | rfl <;> (left; exact ⟨rfl, rfl, rfl, by decide, by decide, by decide⟩)
theorem bset4 {B : Nat} {w W : World} {g : Nat} (h : Below B w W) (hg : B ≤ g) (i j k l : Nat) (a b c d : Value) : Below B w ((((W.setCell ⟨g, i, none⟩ a).setCell ⟨g, j, none⟩ b).setCell ⟨g, k, none⟩ c).setCell ⟨g, l, none⟩ d) :=
  (((h.setCell (p := ⟨g, i, none⟩) hg a).setCell (p := ⟨g, j, none⟩) hg b).setCell (p := ⟨g, k, none⟩) hg c).setCell (p := ⟨g, l, none⟩) hg d
theorem set12 {w : World} {g : Nat} (t : T3) (h : Z12 w g) : Holds12 ((((((((((((w.setCell ⟨g, 0, none⟩ (.int .i64 t.a.k)).setCell ⟨g, 1, none⟩ (.string ⟨t.a.s.toArray⟩)).setCell ⟨g, 2, none⟩ (.string ⟨t.a.la.toArray⟩)).setCell ⟨g, 3, none⟩ (.string ⟨t.a.ty.toArray⟩)).setCell ⟨g, 4, none⟩ (.int .i64 t.b.k)).setCell ⟨g, 5, none⟩ (.string ⟨t.b.s.toArray⟩)).setCell ⟨g, 6, none⟩ (.string ⟨t.b.la.toArray⟩)).setCell ⟨g, 7, none⟩ (.string ⟨t.b.ty.toArray⟩)).setCell ⟨g, 8, none⟩ (.int .i64 t.c.k)).setCell ⟨g, 9, none⟩ (.string ⟨t.c.s.toArray⟩)).setCell ⟨g, 10, none⟩ (.string ⟨t.c.la.toArray⟩)).setCell ⟨g, 11, none⟩ (.string ⟨t.c.ty.toArray⟩)) g t := by
  unfold Holds12
  have h0 := blk_put h 0 (Value.int .i64 t.a.k) (show _ = (#[(Value.int .i64 t.a.k), (Value.string ⟨#[]⟩), (Value.string ⟨#[]⟩), (Value.string ⟨#[]⟩), (Value.int .i64 0), (Value.string ⟨#[]⟩), (Value.string ⟨#[]⟩), (Value.string ⟨#[]⟩), (Value.int .i64 0), (Value.string ⟨#[]⟩), (Value.string ⟨#[]⟩), (Value.string ⟨#[]⟩)] : Array Value) from rfl)
  have h1 := blk_put h0 1 (Value.string ⟨t.a.s.toArray⟩) (show _ = (#[(Value.int .i64 t.a.k), (Value.string ⟨t.a.s.toArray⟩), (Value.string ⟨#[]⟩), (Value.string ⟨#[]⟩), (Value.int .i64 0), (Value.string ⟨#[]⟩), (Value.string ⟨#[]⟩), (Value.string ⟨#[]⟩), (Value.int .i64 0), (Value.string ⟨#[]⟩), (Value.string ⟨#[]⟩), (Value.string ⟨#[]⟩)] : Array Value) from rfl)
  have h2 := blk_put h1 2 (Value.string ⟨t.a.la.toArray⟩) (show _ = (#[(Value.int .i64 t.a.k), (Value.string ⟨t.a.s.toArray⟩), (Value.string ⟨t.a.la.toArray⟩), (Value.string ⟨#[]⟩), (Value.int .i64 0), (Value.string ⟨#[]⟩), (Value.string ⟨#[]⟩), (Value.string ⟨#[]⟩), (Value.int .i64 0), (Value.string ⟨#[]⟩), (Value.string ⟨#[]⟩), (Value.string ⟨#[]⟩)] : Array Value) from rfl)
  have h3 := blk_put h2 3 (Value.string ⟨t.a.ty.toArray⟩) (show _ = (#[(Value.int .i64 t.a.k), (Value.string ⟨t.a.s.toArray⟩), (Value.string ⟨t.a.la.toArray⟩), (Value.string ⟨t.a.ty.toArray⟩), (Value.int .i64 0), (Value.string ⟨#[]⟩), (Value.string ⟨#[]⟩), (Value.string ⟨#[]⟩), (Value.int .i64 0), (Value.string ⟨#[]⟩), (Value.string ⟨#[]⟩), (Value.string ⟨#[]⟩)] : Array Value) from rfl)
  have h4 := blk_put h3 4 (Value.int .i64 t.b.k) (show _ = (#[(Value.int .i64 t.a.k), (Value.string ⟨t.a.s.toArray⟩), (Value.string ⟨t.a.la.toArray⟩), (Value.string ⟨t.a.ty.toArray⟩), (Value.int .i64 t.b.k), (Value.string ⟨#[]⟩), (Value.string ⟨#[]⟩), (Value.string ⟨#[]⟩), (Value.int .i64 0), (Value.string ⟨#[]⟩), (Value.string ⟨#[]⟩), (Value.string ⟨#[]⟩)] : Array Value) from rfl)
  have h5 := blk_put h4 5 (Value.string ⟨t.b.s.toArray⟩) (show _ = (#[(Value.int .i64 t.a.k), (Value.string ⟨t.a.s.toArray⟩), (Value.string ⟨t.a.la.toArray⟩), (Value.string ⟨t.a.ty.toArray⟩), (Value.int .i64 t.b.k), (Value.string ⟨t.b.s.toArray⟩), (Value.string ⟨#[]⟩), (Value.string ⟨#[]⟩), (Value.int .i64 0), (Value.string ⟨#[]⟩), (Value.string ⟨#[]⟩), (Value.string ⟨#[]⟩)] : Array Value) from rfl)
  have h6 := blk_put h5 6 (Value.string ⟨t.b.la.toArray⟩) (show _ = (#[(Value.int .i64 t.a.k), (Value.string ⟨t.a.s.toArray⟩), (Value.string ⟨t.a.la.toArray⟩), (Value.string ⟨t.a.ty.toArray⟩), (Value.int .i64 t.b.k), (Value.string ⟨t.b.s.toArray⟩), (Value.string ⟨t.b.la.toArray⟩), (Value.string ⟨#[]⟩), (Value.int .i64 0), (Value.string ⟨#[]⟩), (Value.string ⟨#[]⟩), (Value.string ⟨#[]⟩)] : Array Value) from rfl)
  have h7 := blk_put h6 7 (Value.string ⟨t.b.ty.toArray⟩) (show _ = (#[(Value.int .i64 t.a.k), (Value.string ⟨t.a.s.toArray⟩), (Value.string ⟨t.a.la.toArray⟩), (Value.string ⟨t.a.ty.toArray⟩), (Value.int .i64 t.b.k), (Value.string ⟨t.b.s.toArray⟩), (Value.string ⟨t.b.la.toArray⟩), (Value.string ⟨t.b.ty.toArray⟩), (Value.int .i64 0), (Value.string ⟨#[]⟩), (Value.string ⟨#[]⟩), (Value.string ⟨#[]⟩)] : Array Value) from rfl)
  have h8 := blk_put h7 8 (Value.int .i64 t.c.k) (show _ = (#[(Value.int .i64 t.a.k), (Value.string ⟨t.a.s.toArray⟩), (Value.string ⟨t.a.la.toArray⟩), (Value.string ⟨t.a.ty.toArray⟩), (Value.int .i64 t.b.k), (Value.string ⟨t.b.s.toArray⟩), (Value.string ⟨t.b.la.toArray⟩), (Value.string ⟨t.b.ty.toArray⟩), (Value.int .i64 t.c.k), (Value.string ⟨#[]⟩), (Value.string ⟨#[]⟩), (Value.string ⟨#[]⟩)] : Array Value) from rfl)
  have h9 := blk_put h8 9 (Value.string ⟨t.c.s.toArray⟩) (show _ = (#[(Value.int .i64 t.a.k), (Value.string ⟨t.a.s.toArray⟩), (Value.string ⟨t.a.la.toArray⟩), (Value.string ⟨t.a.ty.toArray⟩), (Value.int .i64 t.b.k), (Value.string ⟨t.b.s.toArray⟩), (Value.string ⟨t.b.la.toArray⟩), (Value.string ⟨t.b.ty.toArray⟩), (Value.int .i64 t.c.k), (Value.string ⟨t.c.s.toArray⟩), (Value.string ⟨#[]⟩), (Value.string ⟨#[]⟩)] : Array Value) from rfl)
  have h10 := blk_put h9 10 (Value.string ⟨t.c.la.toArray⟩) (show _ = (#[(Value.int .i64 t.a.k), (Value.string ⟨t.a.s.toArray⟩), (Value.string ⟨t.a.la.toArray⟩), (Value.string ⟨t.a.ty.toArray⟩), (Value.int .i64 t.b.k), (Value.string ⟨t.b.s.toArray⟩), (Value.string ⟨t.b.la.toArray⟩), (Value.string ⟨t.b.ty.toArray⟩), (Value.int .i64 t.c.k), (Value.string ⟨t.c.s.toArray⟩), (Value.string ⟨t.c.la.toArray⟩), (Value.string ⟨#[]⟩)] : Array Value) from rfl)
  have h11 := blk_put h10 11 (Value.string ⟨t.c.ty.toArray⟩) (show _ = (#[(Value.int .i64 t.a.k), (Value.string ⟨t.a.s.toArray⟩), (Value.string ⟨t.a.la.toArray⟩), (Value.string ⟨t.a.ty.toArray⟩), (Value.int .i64 t.b.k), (Value.string ⟨t.b.s.toArray⟩), (Value.string ⟨t.b.la.toArray⟩), (Value.string ⟨t.b.ty.toArray⟩), (Value.int .i64 t.c.k), (Value.string ⟨t.c.s.toArray⟩), (Value.string ⟨t.c.la.toArray⟩), (Value.string ⟨t.c.ty.toArray⟩)] : Array Value) from rfl)
  exact h11
set_option maxHeartbeats 4000000 in
set_option maxRecDepth 100000 in
theorem good9_any (t : T3) (w : World) (h : t.small) :
    Calls Tryd.prog 33 #[.agg (triC t.a t.b t.c)] w (TriPost w) := by
  have HA := Lib.hid (fun W => good6_any t.a W h.1)
  have HB := Lib.hid (fun W => good6_any t.b W h.2.1)
  have HC := Lib.hid (fun W => good6_any t.c W h.2.2)
  have HW := Lib.hid (fun W => within9_any (t.b.s.length : Int) 3 W (by omega) (by omega))
  clear h
  go_enter Tryd.func33, Tryd.ntmps33
  go_upto_region 1 with fail
  go_cut [3] (fun s3 wx => ∃ g t', s3 = .pointer (some ⟨g, 0, none⟩) ∧ Hid (Holds12 wx g t' ∧ t'.a.fine ∧ t'.b.fine ∧ t'.c.fine ∧ w.heap.size + 2 ≤ g) ∧ Hid (Below (w.heap.size + 2) ((w.alloc (.cells (triC t.a t.b t.c) 42 (0, 0))).alloc (.cells zs 42 (0, 0))) wx))
  case first =>
    go_region_held3 (fun w' => w'.cell? ⟨w.heap.size, 0, none⟩ = some (.int .i64 t.a.k) ∧ w'.cell? ⟨w.heap.size, 1, none⟩ = some (.string ⟨t.a.s.toArray⟩) ∧ w'.cell? ⟨w.heap.size, 2, none⟩ = some (.string ⟨t.a.la.toArray⟩) ∧ w'.cell? ⟨w.heap.size, 3, none⟩ = some (.string ⟨t.a.ty.toArray⟩) ∧
    w'.cell? ⟨w.heap.size, 4, none⟩ = some (.int .i64 t.b.k) ∧ w'.cell? ⟨w.heap.size, 5, none⟩ = some (.string ⟨t.b.s.toArray⟩) ∧ w'.cell? ⟨w.heap.size, 6, none⟩ = some (.string ⟨t.b.la.toArray⟩) ∧ w'.cell? ⟨w.heap.size, 7, none⟩ = some (.string ⟨t.b.ty.toArray⟩) ∧
    w'.cell? ⟨w.heap.size, 8, none⟩ = some (.int .i64 t.c.k) ∧ w'.cell? ⟨w.heap.size, 9, none⟩ = some (.string ⟨t.c.s.toArray⟩) ∧ w'.cell? ⟨w.heap.size, 10, none⟩ = some (.string ⟨t.c.la.toArray⟩) ∧ w'.cell? ⟨w.heap.size, 11, none⟩ = some (.string ⟨t.c.ty.toArray⟩) ∧ Below (w.heap.size + 2) ((w.alloc (.cells (triC t.a t.b t.c) 42 (0, 0))).alloc (.cells zs 42 (0, 0))) w' ∧ w.heap.size + 2 ≤ w'.heap.size)
      (first
        | (with_reducible exact keepS _ _ _ _ _ _ _ _ _ _ _ _ _ (by assumption) (by omega))
        | (with_reducible exact keepA _ (by assumption))
        | (with_reducible exact keepZ _ _ (by omega) (by assumption))
        | (with_reducible exact keepC (by assumption) hb)
        | (with_reducible exact keepI _ _ _)
        | (with_reducible exact keepI2 _ _ _ _)
        )
      (first | (go_at_call 66; (with_reducible refine (HA.out _).mono ?_); rintro e w1 ⟨ta, hfa, rfl, hb⟩; (first | (refine zeroI hb ?_; rintro ⟨zw, z0, z1, z2, z3, z4, z5, z6, z7, z8, z9, z10, z11, zf⟩) | (refine zeroK hb ?_; rintro ⟨zw, z0, z1, z2, z3, z4, z5, z6, z7, z8, z9, z10, z11, zf⟩) | (refine zeroL (by assumption) hb ?_; rintro ⟨zw, z0, z1, z2, z3, z4, z5, z6, z7, z8, z9, z10, z11, zf⟩) | skip); have hsz := hb.size; (try simp at hsz)) | (go_at_call 66; (with_reducible refine (HB.out _).mono ?_); rintro e w1 ⟨tb, hfb, rfl, hb⟩; (first | (refine zeroI hb ?_; rintro ⟨zw, z0, z1, z2, z3, z4, z5, z6, z7, z8, z9, z10, z11, zf⟩) | (refine zeroK hb ?_; rintro ⟨zw, z0, z1, z2, z3, z4, z5, z6, z7, z8, z9, z10, z11, zf⟩) | (refine zeroL (by assumption) hb ?_; rintro ⟨zw, z0, z1, z2, z3, z4, z5, z6, z7, z8, z9, z10, z11, zf⟩) | skip); have hsz := hb.size; (try simp at hsz)) | (go_at_call 66; (with_reducible refine (HC.out _).mono ?_); rintro e w1 ⟨tc, hfc, rfl, hb⟩; (first | (refine zeroI hb ?_; rintro ⟨zw, z0, z1, z2, z3, z4, z5, z6, z7, z8, z9, z10, z11, zf⟩) | (refine zeroK hb ?_; rintro ⟨zw, z0, z1, z2, z3, z4, z5, z6, z7, z8, z9, z10, z11, zf⟩) | (refine zeroL (by assumption) hb ?_; rintro ⟨zw, z0, z1, z2, z3, z4, z5, z6, z7, z8, z9, z10, z11, zf⟩) | skip); have hsz := hb.size; (try simp at hsz)))
    all_goals (go_wp2_with fail; go_meet)
    · exact ⟨_, ⟨ta, tb, tc⟩, rfl, Lib.hid ⟨heap_alloc_new _ _, hfa, hfb, hfc, by omega⟩, Lib.hid (keepBel (by assumption))⟩
    all_goals exact ⟨_, ⟨ta, tb, tc⟩, rfl, Lib.hid ⟨set12 ⟨ta, tb, tc⟩ zw, hfa, hfb, hfc, by omega⟩, Lib.hid (keepBel (by assumption))⟩
  case rest =>
    obtain ⟨g, t', rfl, HH, HBB⟩ := hcut
    have hz := HH.out.2.2.2.2
    obtain ⟨z0, z1, z2, z3, z4, z5, z6, z7, z8, z9, z10, z11⟩ := HH.out.1.cells
    have zf := blk_frozen HH.out.1
    go_upto_if 17 with fail
    go_cut [3] from 18 to 19 (fun s3 wx => s3 = .pointer (some ⟨g, 0, none⟩) ∧ ∃ t', Hid (Holds12 wx g t' ∧ t'.a.fine ∧ t'.b.fine ∧ t'.c.fine ∧ t'.a.k ≠ 3) ∧ Hid (Below (w.heap.size + 2) ((w.alloc (.cells (triC t.a t.b t.c) 42 (0, 0))).alloc (.cells zs 42 (0, 0))) wx))
    case first =>
      by_cases ka : t'.a.k = 3
      · have b3 : (t'.a.k == 3) = true := beq_iff_eq.2 ka
        clear ka
        go_wp2
        go_meet
        exact ⟨rfl, _, Lib.hid ⟨set4a HH.out.1, fine_lit, HH.out.2.2.1, HH.out.2.2.2.1, (show (2 : Int) ≠ 3 by decide)⟩, Lib.hid (bset4 HBB.out hz _ _ _ _ _ _ _ _)⟩
      · have b3 : (t'.a.k == 3) = false := beq_eq_false_iff_ne.2 ka
        have HK := Lib.hid ka
        clear ka
        go_wp2
        go_meet
        exact ⟨rfl, _, Lib.hid ⟨HH.out.1, HH.out.2.1, HH.out.2.2.1, HH.out.2.2.2.1, HK.out⟩, HBB⟩
    case rest =>
      clear HH z0 z1 z2 z3 z4 z5 z6 z7 z8 z9 z10 z11 zf HBB
      obtain ⟨rfl, t', HH, HBB⟩ := hcut
      rename World => w2
      have hraw : Holds12 w2 w.heap.size t := by
        unfold Holds12
        rw [HBB.out.block _ (by omega), Below.heap_alloc _ _ _ (by simp)]
        exact heap_alloc_new w _
      have hr5 := blk_cell hraw 5
      simp at hr5
      have hlt2 : g < w2.heap.size := blk_lt HH.out.1
      have hs2 := HBB.out.size
      simp at hs2
      obtain ⟨z0, z1, z2, z3, z4, z5, z6, z7, z8, z9, z10, z11⟩ := HH.out.1.cells
      have zf := blk_frozen HH.out.1
      have n1 := World.new_ne w2 _ hr5
      have n2 := World.new_ne w2 _ z4
      have hr5a : ∀ o, (w2.alloc o).cell? ⟨w.heap.size, 5, none⟩ = some (.string ⟨t.b.s.toArray⟩) := fun o => by rw [World.cell?_alloc_past (w := w2) o _ 5 (by omega)]; exact hr5
      have HRS := Lib.hid hraw
      clear hraw
      go_upto_if 23 with fail
      go_cut [3] from 23 to 34 (fun s3 wx => s3 = .pointer (some ⟨g, 0, none⟩) ∧ ∃ t', Hid (Holds12 wx g t' ∧ t'.a.fine ∧ t'.b.fine ∧ t'.c.fine ∧ t'.a.k ≠ 3 ∧ t'.b.k = 1) ∧ Hid (Below (w.heap.size + 2) ((w.alloc (.cells (triC t.a t.b t.c) 42 (0, 0))).alloc (.cells zs 42 (0, 0))) wx))
      case first =>
        by_cases kb : t'.b.k = 1
        · have b3 : (t'.b.k != 1) = false := by rw [kb]; rfl
          have HK := Lib.hid kb
          clear kb
          go_wp2
          go_meet
          exact ⟨rfl, _, Lib.hid ⟨HH.out.1, HH.out.2.1, HH.out.2.2.1, HH.out.2.2.2.1, HH.out.2.2.2.2, HK.out⟩, HBB⟩
        · have b3 : (t'.b.k != 1) = true := bne_iff_ne.2 kb
          clear kb
          have hr : (t.b.s.length : Int) % 3 = 0 ∨ (t.b.s.length : Int) % 3 = 1 ∨ (t.b.s.length : Int) % 3 = 2 := by omega
          rcases hr with hr | hr | hr <;> rw [hr] at HW <;> clear hr
          · go_wp2_with ((with_reducible refine (HW.out _).mono ?_); rintro e w' ⟨rfl, rfl⟩)
            go_meet
            exact ⟨rfl, _, Lib.hid ⟨set4c 97 _ _ rfl HH.out.1, HH.out.2.1, fine_pre 97 (by decide), HH.out.2.2.2.1, HH.out.2.2.2.2, rfl⟩, Lib.hid ((bset4 HBB.out hz _ _ _ _ _ _ _ _).alloc (by simp [World.setCell]; omega) _)⟩
          · go_wp2_with ((with_reducible refine (HW.out _).mono ?_); rintro e w' ⟨rfl, rfl⟩)
            go_meet
            exact ⟨rfl, _, Lib.hid ⟨set4c 98 _ _ rfl HH.out.1, HH.out.2.1, fine_pre 98 (by decide), HH.out.2.2.2.1, HH.out.2.2.2.2, rfl⟩, Lib.hid ((bset4 HBB.out hz _ _ _ _ _ _ _ _).alloc (by simp [World.setCell]; omega) _)⟩
          · go_wp2_with ((with_reducible refine (HW.out _).mono ?_); rintro e w' ⟨rfl, rfl⟩)
            go_meet
            exact ⟨rfl, _, Lib.hid ⟨set4c 99 _ _ rfl HH.out.1, HH.out.2.1, fine_pre 99 (by decide), HH.out.2.2.2.1, HH.out.2.2.2.2, rfl⟩, Lib.hid ((bset4 HBB.out hz _ _ _ _ _ _ _ _).alloc (by simp [World.setCell]; omega) _)⟩
      case rest =>
        clear z0 z1 z2 z3 z4 z5 z6 z7 z8 z9 z10 z11 zf n1 n2 hr5a hr5 HRS HH HBB
        obtain ⟨rfl, t', HH, HBB⟩ := hcut
        rename World => w3
        have hres : Z12 w3 (w.heap.size + 1) := by
          unfold Z12
          rw [HBB.out.block _ (by omega)]
          have := heap_alloc_new (w.alloc (.cells (triC t.a t.b t.c) 42 (0, 0))) (.cells zs 42 (0, 0))
          simpa using this
        obtain ⟨z0, z1, z2, z3, z4, z5, z6, z7, z8, z9, z10, z11⟩ := HH.out.1.cells
        obtain ⟨hrz, y0, y1, y2, y3, y4, y5, y6, y7, y8, y9, y10, y11, yf⟩ := hres.cells
        have HR := Lib.hid hres
        have hne : w.heap.size + 1 ≠ g := by omega
        clear hrz hres
        have hB := HBB.out
        have HBel := Lib.hid (((((Below.refl _ w).alloc (Nat.le_refl _) (.cells (triC t.a t.b t.c) 42 (0, 0))).alloc (by simp) (.cells zs 42 (0, 0)))).trans (hB.mono (by omega)))
        clear hB
        go_wp2
        refine bodyPost_ret (v := .agg (triC t'.a t'.b t'.c)) (by simp [results, Tryd.results33, go_sem, y0, y1, y2, y3, y4, y5, y6, y7, y8, y9, y10, y11, yf]) rfl ?_
        exact ⟨t', ⟨HH.out.2.1, HH.out.2.2.1, HH.out.2.2.2.1, HH.out.2.2.2.2.1, HH.out.2.2.2.2.2⟩, rfl, bset4 (bset4 (bset4 HBel.out (by omega) _ _ _ _ _ _ _ _) (by omega) _ _ _ _ _ _ _ _) (by omega) _ _ _ _ _ _ _ _⟩
end Go.Proofs.YtpgoemlnjocmhaaDoor.Nt
