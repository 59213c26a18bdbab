/-
  A part of the proof (whatever the input, the law returns true and the input reads as it did): when two terms, two triples are one. Conditions stand at each theorem.
-/
import Derived.Test.YtpgoemlnjocmhaaDoorTrmB
import Derived.Laws.StructEq
namespace Go.Proofs.YtpgoemlnjocmhaaDoor.Nt
open Go.RowKit Go.Proofs.YtpgoemlnjocmhaaDoorW.PrintWords
set_option linter.unusedVariables false
set_option linter.unusedSimpArgs false

instance : DecidableEq T := fun a b =>
  match a, b with
  | ⟨k, s, la, ty⟩, ⟨k', s', la', ty'⟩ => decidable_of_iff (k = k' ∧ s = s' ∧ la = la' ∧ ty = ty') (by simp)
instance : DecidableEq T3 := fun x y =>
  match x, y with
  | ⟨a, b, c⟩, ⟨a', b', c'⟩ => decidable_of_iff (a = a' ∧ b = b' ∧ c = c') (by simp)
def eqT (a b : T) : Bool := a.k == b.k && a.s == b.s && a.la == b.la && a.ty == b.ty
theorem eqT_iff (a b : T) : eqT a b = decide (a = b) := by
  obtain ⟨k, s, la, ty⟩ := a
  obtain ⟨k', s', la', ty'⟩ := b
  rw [Bool.eq_iff_iff]
  simp [eqT, and_assoc]
theorem equalIn_T (d : Nat) (a b : T) (w : World) : (Op.equalIn (d + 2) 40 (.agg #[.int .i64 a.k, .string ⟨a.s.toArray⟩, .string ⟨a.la.toArray⟩, .string ⟨a.ty.toArray⟩]) (.agg #[.int .i64 b.k, .string ⟨b.s.toArray⟩, .string ⟨b.la.toArray⟩, .string ⟨b.ty.toArray⟩])).run Tryd.prog w = .ok (eqT a b) w := by
  have u3 := Tryd.underlying3
  have u9 := Tryd.underlying9
  have a3 := Tryd.isAgg3
  have z3 := Tryd.sizeOf3
  have a9 := Tryd.isAgg9
  have z9 := Tryd.sizeOf9
  have hS : Tryd.prog.underlying 40 = some (.struct (Tryd.prog.fieldsOf 40)) := by kernel_rfl
  have hp : Tryd.prog.stoodInHeld 40 = false := by kernel_rfl
  rw [run_equalIn_agg w (d + 1) 40 _ _ hS hp]
  simp only [Program.fieldsOf, Tryd.underlying40]
  unfold eqT
  go_simp
  by_cases h1 : a.k = b.k <;> by_cases h2 : a.s = b.s <;> by_cases h3 : a.la = b.la <;> by_cases h4 : a.ty = b.ty <;> simp [h1, h2, h3, h4]
def eq3 (x y : T3) : Bool := eqT x.a y.a && eqT x.b y.b && eqT x.c y.c
theorem eq3_iff (x y : T3) : eq3 x y = decide (x = y) := by
  obtain ⟨a, b, c⟩ := x
  obtain ⟨a', b', c'⟩ := y
  rw [Bool.eq_iff_iff]
  simp [eq3, eqT_iff, and_assoc]
set_option maxRecDepth 100000 in
theorem equalIn_T3 (x y : T3) (w : World) : (Op.equalIn 10000 42 (.agg (triC x.a x.b x.c)) (.agg (triC y.a y.b y.c))).run Tryd.prog w = .ok (eq3 x y) w := by
  have s40 := Tryd.sizeOf40
  have a40 := Tryd.isAgg40
  have u3 := Tryd.underlying3
  have u9 := Tryd.underlying9
  have a3 := Tryd.isAgg3
  have z3 := Tryd.sizeOf3
  have a9 := Tryd.isAgg9
  have z9 := Tryd.sizeOf9
  rw [show (10000 : Nat) = 9999 + 1 from rfl, Op.equalIn]
  simp only [Sem.run_bind, run_underlying Tryd.underlying42, Result.andThen_ok]
  simp only [Std.Legacy.Range.forIn_eq_forIn_range', Std.Legacy.Range.size, Nat.sub_zero, Nat.add_sub_cancel, Nat.div_one, List.range'_succ, List.range'_zero, List.forIn_cons, List.forIn_nil]
  go_simp
  simp only [eq3, eqT]
  by_cases h1 : x.a.k = y.a.k <;> simp [h1]
  by_cases h2 : x.a.s = y.a.s <;> simp [h2]
  by_cases h3 : x.a.la = y.a.la <;> simp [h3]
  by_cases h4 : x.a.ty = y.a.ty <;> simp [h4]
  by_cases h1 : x.b.k = y.b.k <;> simp [h1]
  by_cases h2 : x.b.s = y.b.s <;> simp [h2]
  by_cases h3 : x.b.la = y.b.la <;> simp [h3]
  by_cases h4 : x.b.ty = y.b.ty <;> simp [h4]
  by_cases h1 : x.c.k = y.c.k <;> simp [h1]
  by_cases h2 : x.c.s = y.c.s <;> simp [h2]
  by_cases h3 : x.c.la = y.c.la <;> simp [h3]
  by_cases h4 : x.c.ty = y.c.ty <;> simp [h4]
end Go.Proofs.YtpgoemlnjocmhaaDoor.Nt
