/-
  A part of the proof (whatever the input, the law returns true and the input reads as it did): how two triples stand in the reference. Conditions stand at each theorem.
-/
import Derived.Test.YtpgoemlnjocmhaaDoorTrmA
import Derived.Deep.RegionHeld3
import Derived.Deep.DrawnRows
import Derived.StillTailTactics
namespace Go.Proofs.YtpgoemlnjocmhaaDoor.Nt
open Go.RowKit Go.Proofs.YtpgoemlnjocmhaaDoorW.PrintWords
set_option linter.unusedVariables false
set_option linter.unusedSimpArgs false

def cmpT (a b : T) : Int := cmpZ a.k ⟨a.s.toArray⟩ ⟨a.la.toArray⟩ ⟨a.ty.toArray⟩ b.k ⟨b.s.toArray⟩ ⟨b.la.toArray⟩ ⟨b.ty.toArray⟩
def lessT (x y : T3) : Bool := if cmpT x.a y.a ≠ 0 then decide (cmpT x.a y.a < 0) else if cmpT x.b y.b ≠ 0 then decide (cmpT x.b y.b < 0) else decide (cmpT x.c y.c < 0)

/-- Two blocks of twelve cells each. -/
def Two (w wr : World) (x y : T3) : Prop := Below w.heap.size w wr ∧ wr.heap[w.heap.size]? = some (.cells (triC x.a x.b x.c) 42 (0, 0)) ∧ wr.heap[w.heap.size + 1]? = some (.cells (triC y.a y.b y.c) 42 (0, 0))
theorem Two.new (w : World) (x y : T3) : Two w ((w.alloc (.cells (triC x.a x.b x.c) 42 (0, 0))).alloc (.cells (triC y.a y.b y.c) 42 (0, 0))) x y :=
  ⟨((Below.refl _ w).alloc (Nat.le_refl _) _).alloc (by simp) _, by rw [Below.heap_alloc _ _ _ (by simp)]; exact heap_alloc_new w _, by have := heap_alloc_new (w.alloc (.cells (triC x.a x.b x.c) 42 (0, 0))) (.cells (triC y.a y.b y.c) 42 (0, 0)); simpa using this⟩
theorem Two.step {w wr wn : World} {x y : T3} (h : Two w wr x y) (hb : Below wr.heap.size wr wn) : Two w wn x y := by
  obtain ⟨h1, h2, h3⟩ := h
  exact ⟨h1.trans (hb.mono h1.size), by rw [hb.block _ (blk_lt h2)]; exact h2, by rw [hb.block _ (blk_lt h3)]; exact h3⟩
theorem Two.c0 {w wr : World} {x y : T3} (h : Two w wr x y) (j : Nat) : wr.cell? ⟨w.heap.size, j, none⟩ = (triC x.a x.b x.c)[j]? := blk_cell h.2.1 j
theorem Two.c1 {w wr : World} {x y : T3} (h : Two w wr x y) (j : Nat) : wr.cell? ⟨w.heap.size + 1, j, none⟩ = (triC y.a y.b y.c)[j]? := blk_cell h.2.2 j

theorem Two.drew {w wr : World} {x y : T3} (h : Two w wr x y) : Two w wr.drew x y := h.step (Below.refl _ _).drew
/-- From place i on. -/
def lessF (x y : T3) (i : Nat) : Bool :=
  if i = 0 then lessT x y else if i = 1 then (if cmpT x.b y.b ≠ 0 then decide (cmpT x.b y.b < 0) else decide (cmpT x.c y.c < 0)) else if i = 2 then decide (cmpT x.c y.c < 0) else false
set_option maxHeartbeats 1600000 in
set_option maxRecDepth 100000 in
theorem less_any (x y : T3) (w : World) :
    Calls Tryd.prog 32 #[x.val, y.val] w fun e w' => e = .returned (.bool (lessT x y)) ∧ Below w.heap.size w w' := by
  have h0 := fun W => compare_any x.a.k ⟨x.a.s.toArray⟩ ⟨x.a.la.toArray⟩ ⟨x.a.ty.toArray⟩ y.a.k ⟨y.a.s.toArray⟩ ⟨y.a.la.toArray⟩ ⟨y.a.ty.toArray⟩ W
  have h1 := fun W => compare_any x.b.k ⟨x.b.s.toArray⟩ ⟨x.b.la.toArray⟩ ⟨x.b.ty.toArray⟩ y.b.k ⟨y.b.s.toArray⟩ ⟨y.b.la.toArray⟩ ⟨y.b.ty.toArray⟩ W
  have h2 := fun W => compare_any x.c.k ⟨x.c.s.toArray⟩ ⟨x.c.la.toArray⟩ ⟨x.c.ty.toArray⟩ y.c.k ⟨y.c.s.toArray⟩ ⟨y.c.la.toArray⟩ ⟨y.c.ty.toArray⟩ W
  have hT := Two.new w x y
  have g0 : lessT x y = if cmpT x.a y.a ≠ 0 then decide (cmpT x.a y.a < 0) else lessF x y 1 := rfl
  have g1 : lessF x y 1 = if cmpT x.b y.b ≠ 0 then decide (cmpT x.b y.b < 0) else lessF x y 2 := rfl
  have g2 : lessF x y 2 = if cmpT x.c y.c ≠ 0 then decide (cmpT x.c y.c < 0) else false := by
    show decide (cmpT x.c y.c < 0) = _
    split
    · rfl
    · rename_i h; rw [show cmpT x.c y.c = 0 from Classical.not_not.1 h]; rfl
  unfold cmpT at g0 g1 g2
  have e0 : lessF x y 0 = lessT x y := rfl
  have e3 : lessF x y 3 = false := rfl
  rw [← e0] at g0 ⊢
  generalize lessF x y 0 = r0 at *
  generalize lessF x y 1 = r1 at *
  generalize lessF x y 2 = r2 at *
  generalize cmpZ x.a.k ⟨x.a.s.toArray⟩ ⟨x.a.la.toArray⟩ ⟨x.a.ty.toArray⟩ y.a.k ⟨y.a.s.toArray⟩ ⟨y.a.la.toArray⟩ ⟨y.a.ty.toArray⟩ = n0 at *
  generalize cmpZ x.b.k ⟨x.b.s.toArray⟩ ⟨x.b.la.toArray⟩ ⟨x.b.ty.toArray⟩ y.b.k ⟨y.b.s.toArray⟩ ⟨y.b.la.toArray⟩ ⟨y.b.ty.toArray⟩ = n1 at *
  generalize cmpZ x.c.k ⟨x.c.s.toArray⟩ ⟨x.c.la.toArray⟩ ⟨x.c.ty.toArray⟩ y.c.k ⟨y.c.s.toArray⟩ ⟨y.c.la.toArray⟩ ⟨y.c.ty.toArray⟩ = n2 at *
  have H0 := Lib.hid h0
  have H1 := Lib.hid h1
  have H2 := Lib.hid h2
  have HT := Lib.hid hT
  have G0 := Lib.hid g0
  have G1 := Lib.hid g1
  have G2 := Lib.hid g2
  clear h0 h1 h2 hT g0 g1 g2 e0 e3
  unfold T3.val tri
  go_enter Tryd.func32, Tryd.ntmps32
  go_wp2
  go_loopw [5] (fun v wr => ∃ i : Nat, v = .int .i64 i ∧ i ≤ 3 ∧ Hid (Two w wr x y) ∧ Hid (r0 = if i = 0 then r0 else if i = 1 then r1 else if i = 2 then r2 else false)) (fun v _ => 3 - (intOf v).toNat)
  case atStart => exact ⟨0, rfl, by omega, HT, Lib.hid rfl⟩
  case round =>
    obtain ⟨i, rfl, hi, HW, HR⟩ := hrel
    have h4 : i = 0 ∨ i = 1 ∨ i = 2 ∨ i = 3 := by omega
    rcases h4 with rfl | rfl | rfl | rfl
    · have a0 := HW.out.c0 0
      have a1 := HW.out.c0 1
      have a2 := HW.out.c0 2
      have a3 := HW.out.c0 3
      have b0 := HW.out.c1 0
      have b1 := HW.out.c1 1
      have b2 := HW.out.c1 2
      have b3 := HW.out.c1 3
      simp at a0 a1 a2 a3 b0 b1 b2 b3
      go_wp2_with fail
      go_still_tail 6, (by kernel_rfl)
      clear a0 a1 a2 a3 b0 b1 b2 b3
      change wpList _ _ _ _ _ wr.drew
      have HD := Lib.hid HW.out.drew
      by_cases z : n0 = 0
      · have z1 : (n0 == 0) = true := by simpa using z
        have HZ := Lib.hid z
        clear z
        go_wp2_with fail
        refine (H0.out _).mono ?_
        rintro e w2 ⟨rfl, hb⟩
        have HE := Lib.hid (HD.out.step hb)
        clear hb
        go_wp2
        go_roundw
        case rel => exact ⟨1, by go_num, by omega, HE, Lib.hid (by have g0 := G0.out; rw [if_neg (not_not_intro HZ.out)] at g0; exact g0)⟩
        case measure => simp [intOf]
      · have z1 : (n0 == 0) = false := by simpa using z
        have HZ := Lib.hid z
        clear z
        go_wp2_with fail
        refine (H0.out _).mono ?_
        rintro e w2 ⟨rfl, hb⟩
        have HE := Lib.hid (HD.out.step hb)
        clear hb
        go_wp2
        all_goals
          go_ret
          refine ⟨?_, HE.out.1⟩
          have g := G0.out
          have hr := HR.out
          rw [if_pos HZ.out] at g
          simp at hr ⊢
          simp [*]
    · have a0 := HW.out.c0 4
      have a1 := HW.out.c0 5
      have a2 := HW.out.c0 6
      have a3 := HW.out.c0 7
      have b0 := HW.out.c1 4
      have b1 := HW.out.c1 5
      have b2 := HW.out.c1 6
      have b3 := HW.out.c1 7
      simp at a0 a1 a2 a3 b0 b1 b2 b3
      go_wp2_with fail
      go_still_tail 6, (by kernel_rfl)
      clear a0 a1 a2 a3 b0 b1 b2 b3
      change wpList _ _ _ _ _ wr.drew
      have HD := Lib.hid HW.out.drew
      by_cases z : n1 = 0
      · have z1 : (n1 == 0) = true := by simpa using z
        have HZ := Lib.hid z
        clear z
        go_wp2_with fail
        refine (H1.out _).mono ?_
        rintro e w2 ⟨rfl, hb⟩
        have HE := Lib.hid (HD.out.step hb)
        clear hb
        go_wp2
        go_roundw
        case rel => exact ⟨2, by go_num, by omega, HE, Lib.hid (by have g1 := G1.out; have hr := HR.out; rw [if_neg (not_not_intro HZ.out)] at g1; simp at hr ⊢; rw [hr]; exact g1)⟩
        case measure => simp [intOf]
      · have z1 : (n1 == 0) = false := by simpa using z
        have HZ := Lib.hid z
        clear z
        go_wp2_with fail
        refine (H1.out _).mono ?_
        rintro e w2 ⟨rfl, hb⟩
        have HE := Lib.hid (HD.out.step hb)
        clear hb
        go_wp2
        all_goals
          go_ret
          refine ⟨?_, HE.out.1⟩
          have g := G1.out
          have hr := HR.out
          rw [if_pos HZ.out] at g
          simp at hr ⊢
          simp [*]
    · have a0 := HW.out.c0 8
      have a1 := HW.out.c0 9
      have a2 := HW.out.c0 10
      have a3 := HW.out.c0 11
      have b0 := HW.out.c1 8
      have b1 := HW.out.c1 9
      have b2 := HW.out.c1 10
      have b3 := HW.out.c1 11
      simp at a0 a1 a2 a3 b0 b1 b2 b3
      go_wp2_with fail
      go_still_tail 6, (by kernel_rfl)
      clear a0 a1 a2 a3 b0 b1 b2 b3
      change wpList _ _ _ _ _ wr.drew
      have HD := Lib.hid HW.out.drew
      by_cases z : n2 = 0
      · have z1 : (n2 == 0) = true := by simpa using z
        have HZ := Lib.hid z
        clear z
        go_wp2_with fail
        refine (H2.out _).mono ?_
        rintro e w2 ⟨rfl, hb⟩
        have HE := Lib.hid (HD.out.step hb)
        clear hb
        go_wp2
        go_roundw
        case rel => exact ⟨3, by go_num, by omega, HE, Lib.hid (by have g2 := G2.out; have hr := HR.out; rw [if_neg (not_not_intro HZ.out)] at g2; simp at hr ⊢; rw [hr]; exact g2)⟩
        case measure => simp [intOf]
      · have z1 : (n2 == 0) = false := by simpa using z
        have HZ := Lib.hid z
        clear z
        go_wp2_with fail
        refine (H2.out _).mono ?_
        rintro e w2 ⟨rfl, hb⟩
        have HE := Lib.hid (HD.out.step hb)
        clear hb
        go_wp2
        all_goals
          go_ret
          refine ⟨?_, HE.out.1⟩
          have g := G2.out
          have hr := HR.out
          rw [if_pos HZ.out] at g
          simp at hr ⊢
          simp [*]
    · go_wp2
      go_ret
      exact ⟨by have := HR.out; simp at this; rw [this]; rfl, HW.out.1⟩
end Go.Proofs.YtpgoemlnjocmhaaDoor.Nt
