/-
  A part of the proof of NtBlanks (whatever the input, the law returns true and the input reads as it did): the law walked. Conditions stand at each theorem.
-/
import Derived.Test.YtpgoemlnjocmhaaDoorNtS
namespace Go.Proofs.YtpgoemlnjocmhaaDoor.Nt
open Go.RowKit Go.Proofs.YtpgoemlnjocmhaaDoor.Lex
open Go.Proofs.YtpgoemlnjocmhaaDoorW.PrintWords hiding blk_lt blk_cell blk_frozen
set_option linter.unusedVariables false
set_option linter.unusedSimpArgs false

theorem keepC9 {w5 W w1 : World} {y : Addr} {t : T3} (h : W.cell? (y) = some (.int .i64 t.a.k) ∧ W.cell? ⟨(y).block, (y).off + 1, none⟩ = some (.string ⟨t.a.s.toArray⟩) ∧ W.cell? ⟨(y).block, (y).off + 2, none⟩ = some (.string ⟨t.a.la.toArray⟩) ∧ W.cell? ⟨(y).block, (y).off + 3, none⟩ = some (.string ⟨t.a.ty.toArray⟩) ∧ W.cell? ⟨(y).block, (y).off + 4, none⟩ = some (.int .i64 t.b.k) ∧ W.cell? ⟨(y).block, (y).off + 5, none⟩ = some (.string ⟨t.b.s.toArray⟩) ∧ W.cell? ⟨(y).block, (y).off + 6, none⟩ = some (.string ⟨t.b.la.toArray⟩) ∧ W.cell? ⟨(y).block, (y).off + 7, none⟩ = some (.string ⟨t.b.ty.toArray⟩) ∧ W.cell? ⟨(y).block, (y).off + 8, none⟩ = some (.int .i64 t.c.k) ∧ W.cell? ⟨(y).block, (y).off + 9, none⟩ = some (.string ⟨t.c.s.toArray⟩) ∧ W.cell? ⟨(y).block, (y).off + 10, none⟩ = some (.string ⟨t.c.la.toArray⟩) ∧ W.cell? ⟨(y).block, (y).off + 11, none⟩ = some (.string ⟨t.c.ty.toArray⟩) ∧ Below w5.heap.size w5 W) (hb : Below W.heap.size W w1) : w1.cell? (y) = some (.int .i64 t.a.k) ∧ w1.cell? ⟨(y).block, (y).off + 1, none⟩ = some (.string ⟨t.a.s.toArray⟩) ∧ w1.cell? ⟨(y).block, (y).off + 2, none⟩ = some (.string ⟨t.a.la.toArray⟩) ∧ w1.cell? ⟨(y).block, (y).off + 3, none⟩ = some (.string ⟨t.a.ty.toArray⟩) ∧ w1.cell? ⟨(y).block, (y).off + 4, none⟩ = some (.int .i64 t.b.k) ∧ w1.cell? ⟨(y).block, (y).off + 5, none⟩ = some (.string ⟨t.b.s.toArray⟩) ∧ w1.cell? ⟨(y).block, (y).off + 6, none⟩ = some (.string ⟨t.b.la.toArray⟩) ∧ w1.cell? ⟨(y).block, (y).off + 7, none⟩ = some (.string ⟨t.b.ty.toArray⟩) ∧ w1.cell? ⟨(y).block, (y).off + 8, none⟩ = some (.int .i64 t.c.k) ∧ w1.cell? ⟨(y).block, (y).off + 9, none⟩ = some (.string ⟨t.c.s.toArray⟩) ∧ w1.cell? ⟨(y).block, (y).off + 10, none⟩ = some (.string ⟨t.c.la.toArray⟩) ∧ w1.cell? ⟨(y).block, (y).off + 11, none⟩ = some (.string ⟨t.c.ty.toArray⟩) ∧ Below w5.heap.size w5 w1 := by
  obtain ⟨h0, h1, h2, h3, h4, h5, h6, h7, h8, h9, h10, h11, hB⟩ := h
  have k : ∀ (a : Addr) (v : Value), W.cell? a = some v → w1.cell? a = some v := fun a v h => (hb.cell (World.block_lt_of_cell? W a h)).trans h
  exact ⟨k _ _ h0, k _ _ h1, k _ _ h2, k _ _ h3, k _ _ h4, k _ _ h5, k _ _ h6, k _ _ h7, k _ _ h8, k _ _ h9, k _ _ h10, k _ _ h11, hB.trans (hb.mono hB.size)⟩
theorem keepA9 {w5 W : World} {y : Addr} {t : T3} (o : Obj) (h : W.cell? (y) = some (.int .i64 t.a.k) ∧ W.cell? ⟨(y).block, (y).off + 1, none⟩ = some (.string ⟨t.a.s.toArray⟩) ∧ W.cell? ⟨(y).block, (y).off + 2, none⟩ = some (.string ⟨t.a.la.toArray⟩) ∧ W.cell? ⟨(y).block, (y).off + 3, none⟩ = some (.string ⟨t.a.ty.toArray⟩) ∧ W.cell? ⟨(y).block, (y).off + 4, none⟩ = some (.int .i64 t.b.k) ∧ W.cell? ⟨(y).block, (y).off + 5, none⟩ = some (.string ⟨t.b.s.toArray⟩) ∧ W.cell? ⟨(y).block, (y).off + 6, none⟩ = some (.string ⟨t.b.la.toArray⟩) ∧ W.cell? ⟨(y).block, (y).off + 7, none⟩ = some (.string ⟨t.b.ty.toArray⟩) ∧ W.cell? ⟨(y).block, (y).off + 8, none⟩ = some (.int .i64 t.c.k) ∧ W.cell? ⟨(y).block, (y).off + 9, none⟩ = some (.string ⟨t.c.s.toArray⟩) ∧ W.cell? ⟨(y).block, (y).off + 10, none⟩ = some (.string ⟨t.c.la.toArray⟩) ∧ W.cell? ⟨(y).block, (y).off + 11, none⟩ = some (.string ⟨t.c.ty.toArray⟩) ∧ Below w5.heap.size w5 W) : (W.alloc o).cell? (y) = some (.int .i64 t.a.k) ∧ (W.alloc o).cell? ⟨(y).block, (y).off + 1, none⟩ = some (.string ⟨t.a.s.toArray⟩) ∧ (W.alloc o).cell? ⟨(y).block, (y).off + 2, none⟩ = some (.string ⟨t.a.la.toArray⟩) ∧ (W.alloc o).cell? ⟨(y).block, (y).off + 3, none⟩ = some (.string ⟨t.a.ty.toArray⟩) ∧ (W.alloc o).cell? ⟨(y).block, (y).off + 4, none⟩ = some (.int .i64 t.b.k) ∧ (W.alloc o).cell? ⟨(y).block, (y).off + 5, none⟩ = some (.string ⟨t.b.s.toArray⟩) ∧ (W.alloc o).cell? ⟨(y).block, (y).off + 6, none⟩ = some (.string ⟨t.b.la.toArray⟩) ∧ (W.alloc o).cell? ⟨(y).block, (y).off + 7, none⟩ = some (.string ⟨t.b.ty.toArray⟩) ∧ (W.alloc o).cell? ⟨(y).block, (y).off + 8, none⟩ = some (.int .i64 t.c.k) ∧ (W.alloc o).cell? ⟨(y).block, (y).off + 9, none⟩ = some (.string ⟨t.c.s.toArray⟩) ∧ (W.alloc o).cell? ⟨(y).block, (y).off + 10, none⟩ = some (.string ⟨t.c.la.toArray⟩) ∧ (W.alloc o).cell? ⟨(y).block, (y).off + 11, none⟩ = some (.string ⟨t.c.ty.toArray⟩) ∧ Below w5.heap.size w5 (W.alloc o) := keepC9 h ((Below.refl _ _).alloc (Nat.le_refl _) _)
theorem keepD9 {W : World} {y : Addr} {t : T3} (h : W.cell? (y) = some (.int .i64 t.a.k) ∧ W.cell? ⟨(y).block, (y).off + 1, none⟩ = some (.string ⟨t.a.s.toArray⟩) ∧ W.cell? ⟨(y).block, (y).off + 2, none⟩ = some (.string ⟨t.a.la.toArray⟩) ∧ W.cell? ⟨(y).block, (y).off + 3, none⟩ = some (.string ⟨t.a.ty.toArray⟩) ∧ W.cell? ⟨(y).block, (y).off + 4, none⟩ = some (.int .i64 t.b.k) ∧ W.cell? ⟨(y).block, (y).off + 5, none⟩ = some (.string ⟨t.b.s.toArray⟩) ∧ W.cell? ⟨(y).block, (y).off + 6, none⟩ = some (.string ⟨t.b.la.toArray⟩) ∧ W.cell? ⟨(y).block, (y).off + 7, none⟩ = some (.string ⟨t.b.ty.toArray⟩) ∧ W.cell? ⟨(y).block, (y).off + 8, none⟩ = some (.int .i64 t.c.k) ∧ W.cell? ⟨(y).block, (y).off + 9, none⟩ = some (.string ⟨t.c.s.toArray⟩) ∧ W.cell? ⟨(y).block, (y).off + 10, none⟩ = some (.string ⟨t.c.la.toArray⟩) ∧ W.cell? ⟨(y).block, (y).off + 11, none⟩ = some (.string ⟨t.c.ty.toArray⟩)) : W.drew.cell? (y) = some (.int .i64 t.a.k) ∧ W.drew.cell? ⟨(y).block, (y).off + 1, none⟩ = some (.string ⟨t.a.s.toArray⟩) ∧ W.drew.cell? ⟨(y).block, (y).off + 2, none⟩ = some (.string ⟨t.a.la.toArray⟩) ∧ W.drew.cell? ⟨(y).block, (y).off + 3, none⟩ = some (.string ⟨t.a.ty.toArray⟩) ∧ W.drew.cell? ⟨(y).block, (y).off + 4, none⟩ = some (.int .i64 t.b.k) ∧ W.drew.cell? ⟨(y).block, (y).off + 5, none⟩ = some (.string ⟨t.b.s.toArray⟩) ∧ W.drew.cell? ⟨(y).block, (y).off + 6, none⟩ = some (.string ⟨t.b.la.toArray⟩) ∧ W.drew.cell? ⟨(y).block, (y).off + 7, none⟩ = some (.string ⟨t.b.ty.toArray⟩) ∧ W.drew.cell? ⟨(y).block, (y).off + 8, none⟩ = some (.int .i64 t.c.k) ∧ W.drew.cell? ⟨(y).block, (y).off + 9, none⟩ = some (.string ⟨t.c.s.toArray⟩) ∧ W.drew.cell? ⟨(y).block, (y).off + 10, none⟩ = some (.string ⟨t.c.la.toArray⟩) ∧ W.drew.cell? ⟨(y).block, (y).off + 11, none⟩ = some (.string ⟨t.c.ty.toArray⟩) ∧ Below W.heap.size W W.drew := by
  obtain ⟨h0, h1, h2, h3, h4, h5, h6, h7, h8, h9, h10, h11⟩ := h
  exact ⟨by simpa using h0, by simpa using h1, by simpa using h2, by simpa using h3, by simpa using h4, by simpa using h5, by simpa using h6, by simpa using h7, by simpa using h8, by simpa using h9, by simpa using h10, by simpa using h11, (Below.refl _ _).drew⟩
theorem keepAD9 {W : World} {y : Addr} {t : T3} (h : W.cell? (y) = some (.int .i64 t.a.k) ∧ W.cell? ⟨(y).block, (y).off + 1, none⟩ = some (.string ⟨t.a.s.toArray⟩) ∧ W.cell? ⟨(y).block, (y).off + 2, none⟩ = some (.string ⟨t.a.la.toArray⟩) ∧ W.cell? ⟨(y).block, (y).off + 3, none⟩ = some (.string ⟨t.a.ty.toArray⟩) ∧ W.cell? ⟨(y).block, (y).off + 4, none⟩ = some (.int .i64 t.b.k) ∧ W.cell? ⟨(y).block, (y).off + 5, none⟩ = some (.string ⟨t.b.s.toArray⟩) ∧ W.cell? ⟨(y).block, (y).off + 6, none⟩ = some (.string ⟨t.b.la.toArray⟩) ∧ W.cell? ⟨(y).block, (y).off + 7, none⟩ = some (.string ⟨t.b.ty.toArray⟩) ∧ W.cell? ⟨(y).block, (y).off + 8, none⟩ = some (.int .i64 t.c.k) ∧ W.cell? ⟨(y).block, (y).off + 9, none⟩ = some (.string ⟨t.c.s.toArray⟩) ∧ W.cell? ⟨(y).block, (y).off + 10, none⟩ = some (.string ⟨t.c.la.toArray⟩) ∧ W.cell? ⟨(y).block, (y).off + 11, none⟩ = some (.string ⟨t.c.ty.toArray⟩)) (o : Obj) : (W.alloc o).drew.cell? (y) = some (.int .i64 t.a.k) ∧ (W.alloc o).drew.cell? ⟨(y).block, (y).off + 1, none⟩ = some (.string ⟨t.a.s.toArray⟩) ∧ (W.alloc o).drew.cell? ⟨(y).block, (y).off + 2, none⟩ = some (.string ⟨t.a.la.toArray⟩) ∧ (W.alloc o).drew.cell? ⟨(y).block, (y).off + 3, none⟩ = some (.string ⟨t.a.ty.toArray⟩) ∧ (W.alloc o).drew.cell? ⟨(y).block, (y).off + 4, none⟩ = some (.int .i64 t.b.k) ∧ (W.alloc o).drew.cell? ⟨(y).block, (y).off + 5, none⟩ = some (.string ⟨t.b.s.toArray⟩) ∧ (W.alloc o).drew.cell? ⟨(y).block, (y).off + 6, none⟩ = some (.string ⟨t.b.la.toArray⟩) ∧ (W.alloc o).drew.cell? ⟨(y).block, (y).off + 7, none⟩ = some (.string ⟨t.b.ty.toArray⟩) ∧ (W.alloc o).drew.cell? ⟨(y).block, (y).off + 8, none⟩ = some (.int .i64 t.c.k) ∧ (W.alloc o).drew.cell? ⟨(y).block, (y).off + 9, none⟩ = some (.string ⟨t.c.s.toArray⟩) ∧ (W.alloc o).drew.cell? ⟨(y).block, (y).off + 10, none⟩ = some (.string ⟨t.c.la.toArray⟩) ∧ (W.alloc o).drew.cell? ⟨(y).block, (y).off + 11, none⟩ = some (.string ⟨t.c.ty.toArray⟩) ∧ Below W.heap.size W (W.alloc o).drew := keepA9 o (keepD9 h)
theorem keepBel9 {w5 W : World} {y : Addr} {t : T3} (h : W.cell? (y) = some (.int .i64 t.a.k) ∧ W.cell? ⟨(y).block, (y).off + 1, none⟩ = some (.string ⟨t.a.s.toArray⟩) ∧ W.cell? ⟨(y).block, (y).off + 2, none⟩ = some (.string ⟨t.a.la.toArray⟩) ∧ W.cell? ⟨(y).block, (y).off + 3, none⟩ = some (.string ⟨t.a.ty.toArray⟩) ∧ W.cell? ⟨(y).block, (y).off + 4, none⟩ = some (.int .i64 t.b.k) ∧ W.cell? ⟨(y).block, (y).off + 5, none⟩ = some (.string ⟨t.b.s.toArray⟩) ∧ W.cell? ⟨(y).block, (y).off + 6, none⟩ = some (.string ⟨t.b.la.toArray⟩) ∧ W.cell? ⟨(y).block, (y).off + 7, none⟩ = some (.string ⟨t.b.ty.toArray⟩) ∧ W.cell? ⟨(y).block, (y).off + 8, none⟩ = some (.int .i64 t.c.k) ∧ W.cell? ⟨(y).block, (y).off + 9, none⟩ = some (.string ⟨t.c.s.toArray⟩) ∧ W.cell? ⟨(y).block, (y).off + 10, none⟩ = some (.string ⟨t.c.la.toArray⟩) ∧ W.cell? ⟨(y).block, (y).off + 11, none⟩ = some (.string ⟨t.c.ty.toArray⟩) ∧ Below w5.heap.size w5 W) : Below w5.heap.size w5 W := h.2.2.2.2.2.2.2.2.2.2.2.2
def ends5 : Array Value := #[.string ⟨#[10]⟩, .string ⟨#[35, 32, 99, 10]⟩, .string ⟨#[13, 10]⟩, .string ⟨#[10, 10]⟩, .string ⟨#[10, 32, 35, 32, 100, 32, 46, 32, 10]⟩]
theorem ends5_get (r : Nat) (hr : r < 5) : ends5[r]? = some (.string (mkB (endQ r))) := by
  rcases five r hr with rfl | rfl | rfl | rfl | rfl <;> rfl
def E5 (w : World) (g : Nat) : Prop := w.heap[g]? = some (.cells ends5 9 (0, 0))
theorem E5.below {w w' : World} {g : Nat} (h : E5 w g) (hb : Below w.heap.size w w') : E5 w' g := by
  unfold E5; rw [hb.block g (blk_lt h)]; exact h
theorem E5.cell {w : World} {g : Nat} (h : E5 w g) (r : Nat) (hr : r < 5) : w.cell? ⟨g, r, none⟩ = some (.string (mkB (endQ r))) := by
  rw [blk_cell h r]; exact ends5_get r hr
theorem e5K {W w1 : World} {G : Prop} {r : Nat} (hr : r < 5) (hb : Below (W.alloc (.cells #[.string ⟨#[10]⟩, .string ⟨#[35, 32, 99, 10]⟩, .string ⟨#[13, 10]⟩, .string ⟨#[10, 10]⟩, .string ⟨#[10, 32, 35, 32, 100, 32, 46, 32, 10]⟩] 9 (0, 0))).heap.size (W.alloc (.cells #[.string ⟨#[10]⟩, .string ⟨#[35, 32, 99, 10]⟩, .string ⟨#[13, 10]⟩, .string ⟨#[10, 10]⟩, .string ⟨#[10, 32, 35, 32, 100, 32, 46, 32, 10]⟩] 9 (0, 0))) w1) (h : E5 w1 W.heap.size ∧ w1.cell? ⟨W.heap.size, r, none⟩ = some (.string (mkB (endQ r))) → G) : G := by
  have h1 : E5 w1 W.heap.size := by
    unfold E5; rw [hb.block _ (by simp)]; exact heap_alloc_new W _
  exact h ⟨h1, h1.cell r hr⟩
theorem e5D {W w1 : World} {G : Prop} {r : Nat} (hr : r < 5) (hb : Below (W.alloc (.cells #[.string ⟨#[10]⟩, .string ⟨#[35, 32, 99, 10]⟩, .string ⟨#[13, 10]⟩, .string ⟨#[10, 10]⟩, .string ⟨#[10, 32, 35, 32, 100, 32, 46, 32, 10]⟩] 9 (0, 0))).drew.heap.size (W.alloc (.cells #[.string ⟨#[10]⟩, .string ⟨#[35, 32, 99, 10]⟩, .string ⟨#[13, 10]⟩, .string ⟨#[10, 10]⟩, .string ⟨#[10, 32, 35, 32, 100, 32, 46, 32, 10]⟩] 9 (0, 0))).drew w1) (h : E5 w1 W.heap.size ∧ w1.cell? ⟨W.heap.size, r, none⟩ = some (.string (mkB (endQ r))) → G) : G :=
  e5K hr (⟨hb.os, hb.tape, hb.output, hb.size, hb.block⟩ : Below (W.alloc (.cells #[.string ⟨#[10]⟩, .string ⟨#[35, 32, 99, 10]⟩, .string ⟨#[13, 10]⟩, .string ⟨#[10, 10]⟩, .string ⟨#[10, 32, 35, 32, 100, 32, 46, 32, 10]⟩] 9 (0, 0))).heap.size (W.alloc (.cells #[.string ⟨#[10]⟩, .string ⟨#[35, 32, 99, 10]⟩, .string ⟨#[13, 10]⟩, .string ⟨#[10, 10]⟩, .string ⟨#[10, 32, 35, 32, 100, 32, 46, 32, 10]⟩] 9 (0, 0))) w1) h
theorem e5L {W w1 : World} {g : Nat} {G : Prop} {r : Nat} (hr : r < 5) (hz : E5 W g) (hb : Below W.heap.size W w1) (h : E5 w1 g ∧ w1.cell? ⟨g, r, none⟩ = some (.string (mkB (endQ r))) → G) : G := h ⟨hz.below hb, (hz.below hb).cell r hr⟩
theorem e5_new (W : World) (r : Nat) (hr : r < 5) : (W.alloc (.cells #[.string ⟨#[10]⟩, .string ⟨#[35, 32, 99, 10]⟩, .string ⟨#[13, 10]⟩, .string ⟨#[10, 10]⟩, .string ⟨#[10, 32, 35, 32, 100, 32, 46, 32, 10]⟩] 9 (0, 0))).cell? ⟨W.heap.size, r, none⟩ = some (.string (mkB (endQ r))) := by
  have h1 : E5 (W.alloc (.cells #[.string ⟨#[10]⟩, .string ⟨#[35, 32, 99, 10]⟩, .string ⟨#[13, 10]⟩, .string ⟨#[10, 10]⟩, .string ⟨#[10, 32, 35, 32, 100, 32, 46, 32, 10]⟩] 9 (0, 0))) W.heap.size := heap_alloc_new W _
  exact h1.cell r hr
theorem insT_mem (out : List T3) (x : T3) : ∀ t ∈ insT out x, t ∈ out ∨ t = x := by
  intro t ht
  unfold insT at ht
  simp only at ht
  split at ht
  · exact Or.inl ht
  · rw [List.mem_append, List.mem_cons] at ht
    rcases ht with h | h | h
    · exact Or.inl (List.mem_of_mem_take h)
    · exact Or.inr h
    · exact Or.inl (List.mem_of_mem_drop h)
theorem setT_mem (l : List T3) : ∀ t ∈ setT l, t ∈ l := by
  have : ∀ (l o : List T3), ∀ t ∈ l.foldl insT o, t ∈ o ∨ t ∈ l := by
    intro l
    induction l with
    | nil => intro o t ht; exact Or.inl ht
    | cons x l ih =>
      intro o t ht
      rcases ih (insT o x) t ht with h | h
      · rcases insT_mem o x t h with h | h
        · exact Or.inl h
        · exact Or.inr (by rw [h]; simp)
      · exact Or.inr (by simp [h])
  intro t ht
  rcases this l [] t ht with h | h
  · cases h
  · exact h
/-- A row of numbers is there to be read. -/
def NumR (w : World) (a : Option Addr) (len : Nat) : Prop := ∀ i, i < len → ∃ (x : Addr) (v : Int), a = some x ∧ w.cell? (x.add i) = some (.int .i64 v)
theorem NumR.below {w w1 : World} {a : Option Addr} {len : Nat} (h : NumR w a len) (hb : Below w.heap.size w w1) : NumR w1 a len := fun i hi => by
  obtain ⟨x, v, he, hc⟩ := h i hi
  exact ⟨x, v, he, (hb.cell (World.block_lt_of_cell? w _ hc)).trans hc⟩
set_option maxHeartbeats 4000000 in
set_option maxRecDepth 100000 in
theorem parse_long (s : ByteArray) (w : World) (hs : 16000 < s.size) (hs2 : s.size ≤ 140737488351232) :
    Calls Tryd.prog 16 #[.string s] w fun e w' => e = .returned (.tuple #[.slice none 0 0, .int .i64 0, .int .i64 5]) ∧ w = w' := by
  have q : (16000 : Int) < s.size := by omega
  go_enter Tryd.func16, Tryd.ntmps16
  go_wp2
  first | (go_ret3; exact ⟨rfl, rfl⟩) | (go_ret; exact ⟨rfl, rfl⟩)
end Go.Proofs.YtpgoemlnjocmhaaDoor.Nt
