/-
  A part of the proof (whatever the input, the law returns true and the input reads as it did): terms, triples, rows of triples. Conditions stand at each theorem.
-/
import Derived.Test.YtpgoemlnjocmhaaDoorProg
import Derived.Test.YtpgoemlnjocmhaaDoorWWords
import Derived.WalkKit
import Derived.WalkSpells
import Derived.WalkLawsBesides
import Derived.Lib.Hide
import Derived.Deep.LoopGhost
import Derived.Deep.QuietTactic
import Derived.BigQuiet
namespace Go.Proofs.YtpgoemlnjocmhaaDoor.Nt
open Go.RowKit Go.Proofs.YtpgoemlnjocmhaaDoorW.PrintWords
set_option linter.unusedVariables false
set_option linter.unusedSimpArgs false

abbrev Bs := List UInt8
def tval (k : Int) (s la ty : Bs) : Value := .agg #[.int .i64 k, .string ⟨s.toArray⟩, .string ⟨la.toArray⟩, .string ⟨ty.toArray⟩]
structure T where
  k : Int
  s : Bs
  la : Bs
  ty : Bs
def T.val (t : T) : Value := tval t.k t.s t.la t.ty
abbrev zero4 : Obj := .cells #[.int .i64 0, .string ⟨#[]⟩, .string ⟨#[]⟩, .string ⟨#[]⟩] 40 (0, 0)
theorem len_of {s : ByteArray} {l : Bs} (h : s.data.toList = l) : s.size = l.length := by
  rw [← h, Array.length_toList]; rfl

theorem size_of (l : Bs) : (⟨l.toArray⟩ : ByteArray).size = l.length := by show l.toArray.size = _; simp
theorem tri_at0 (x0 x1 x2 x3 x4 x5 x6 x7 x8 x9 x10 x11 : Value) (W : World) : (Instr.index 42 (.agg #[x0, x1, x2, x3, x4, x5, x6, x7, x8, x9, x10, x11]) (.int .i64 0)).run Tryd.prog W = .ok (.agg #[x0, x1, x2, x3]) W := by
  simp [Instr.index, run_underlying Tryd.underlying42, asIntOf, part, go_sem]
theorem tri_at1 (x0 x1 x2 x3 x4 x5 x6 x7 x8 x9 x10 x11 : Value) (W : World) : (Instr.index 42 (.agg #[x0, x1, x2, x3, x4, x5, x6, x7, x8, x9, x10, x11]) (.int .i64 1)).run Tryd.prog W = .ok (.agg #[x4, x5, x6, x7]) W := by
  simp [Instr.index, run_underlying Tryd.underlying42, asIntOf, part, go_sem]
theorem tri_at2 (x0 x1 x2 x3 x4 x5 x6 x7 x8 x9 x10 x11 : Value) (W : World) : (Instr.index 42 (.agg #[x0, x1, x2, x3, x4, x5, x6, x7, x8, x9, x10, x11]) (.int .i64 2)).run Tryd.prog W = .ok (.agg #[x8, x9, x10, x11]) W := by
  simp [Instr.index, run_underlying Tryd.underlying42, asIntOf, part, go_sem]
/-- A triple: twelve cells. -/
def tri (a b c : T) : Value := .agg #[.int .i64 a.k, .string ⟨a.s.toArray⟩, .string ⟨a.la.toArray⟩, .string ⟨a.ty.toArray⟩, .int .i64 b.k, .string ⟨b.s.toArray⟩, .string ⟨b.la.toArray⟩, .string ⟨b.ty.toArray⟩, .int .i64 c.k, .string ⟨c.s.toArray⟩, .string ⟨c.la.toArray⟩, .string ⟨c.ty.toArray⟩]
abbrev zs : Array Value := #[.int .i64 0, .string ⟨#[]⟩, .string ⟨#[]⟩, .string ⟨#[]⟩, .int .i64 0, .string ⟨#[]⟩, .string ⟨#[]⟩, .string ⟨#[]⟩, .int .i64 0, .string ⟨#[]⟩, .string ⟨#[]⟩, .string ⟨#[]⟩]
abbrev triC (a b c : T) : Array Value := #[.int .i64 a.k, .string ⟨a.s.toArray⟩, .string ⟨a.la.toArray⟩, .string ⟨a.ty.toArray⟩, .int .i64 b.k, .string ⟨b.s.toArray⟩, .string ⟨b.la.toArray⟩, .string ⟨b.ty.toArray⟩, .int .i64 c.k, .string ⟨c.s.toArray⟩, .string ⟨c.la.toArray⟩, .string ⟨c.ty.toArray⟩]
structure T3 where
  a : T
  b : T
  c : T
def T3.val (t : T3) : Value := tri t.a t.b t.c
def triL (t : T3) : List Value := [.int .i64 t.a.k, .string ⟨t.a.s.toArray⟩, .string ⟨t.a.la.toArray⟩, .string ⟨t.a.ty.toArray⟩, .int .i64 t.b.k, .string ⟨t.b.s.toArray⟩, .string ⟨t.b.la.toArray⟩, .string ⟨t.b.ty.toArray⟩, .int .i64 t.c.k, .string ⟨t.c.s.toArray⟩, .string ⟨t.c.la.toArray⟩, .string ⟨t.c.ty.toArray⟩]
def cells3 (l : List T3) : List Value := l.flatMap triL
theorem cells3_len (l : List T3) : (cells3 l).length = l.length * 12 := by
  induction l with
  | nil => rfl
  | cons a l ih => simp [cells3, triL] at ih ⊢; omega
theorem cells3_snoc (l : List T3) (t : T3) : cells3 (l ++ [t]) = cells3 l ++ triL t := by simp [cells3]
theorem cells3_one (l : List T3) : ∀ u ∈ cells3 l, u.oneCell' = true := by
  intro u hu
  simp only [cells3, triL, List.mem_flatMap, List.mem_cons, List.not_mem_nil, or_false] at hu
  obtain ⟨t, _, rfl | rfl | rfl | rfl | rfl | rfl | rfl | rfl | rfl | rfl | rfl | rfl⟩ := hu <;> rfl
theorem info_tri : (Tryd.prog.info? 42).map (fun i => (i.zero, i.size, i.bytes)) = some (some (.agg zs), 12, 168) := by kernel_rfl

def intsZ (a b : Int) : Int := if a < b then -1 else if b < a then 1 else 0
def rankZ (k : Int) : Int := if k = 2 then 0 else if k = 1 then 1 else if k = 3 then 2 else 3
def ordZ (a b : List UInt8) : Int := if Op.bytesLess a b = true then -1 else if a = b then 0 else 1
set_option maxHeartbeats 400000 in
theorem ints_any (a b : Int) (w : World) : Calls Tryd.prog 85 #[.int .i64 a, .int .i64 b] w fun e w' => e = .returned (.int .i64 (intsZ a b)) ∧ w = w' := by
  unfold intsZ
  by_cases h1 : a < b <;> by_cases h2 : b < a <;> first
    | (exfalso; omega)
    | (go_enter Tryd.func85, Tryd.ntmps85
       go_wp2
       go_ret
       exact ⟨by simp [h1, h2], rfl⟩)
set_option maxHeartbeats 400000 in
theorem rank_any (a : Int) (w : World) : Calls Tryd.prog 86 #[.int .i64 a] w fun e w' => e = .returned (.int .i64 (rankZ a)) ∧ w = w' := by
  unfold rankZ
  by_cases h1 : a = 2
  · subst h1; go_enter Tryd.func86, Tryd.ntmps86; go_wp2; go_ret; exact ⟨rfl, rfl⟩
  by_cases h2 : a = 1
  · subst h2; go_enter Tryd.func86, Tryd.ntmps86; go_wp2; go_ret; exact ⟨rfl, rfl⟩
  by_cases h3 : a = 3
  · subst h3; go_enter Tryd.func86, Tryd.ntmps86; go_wp2; go_ret; exact ⟨rfl, rfl⟩
  rw [if_neg h1, if_neg h2, if_neg h3]
  have b1 : (a == 2) = false := by simpa using h1
  have b2 : (a == 1) = false := by simpa using h2
  have b3 : (a == 3) = false := by simpa using h3
  clear h1 h2 h3
  go_enter Tryd.func86, Tryd.ntmps86; go_wp2; go_ret; exact ⟨rfl, rfl⟩
set_option maxHeartbeats 400000 in
theorem order_any (a b : ByteArray) (w : World) : Calls Tryd.prog 87 #[.string a, .string b] w fun e w' => e = .returned (.int .i64 (ordZ a.data.toList b.data.toList)) ∧ w = w' := by
  unfold ordZ
  rw [← ByteArray.toList_eq, ← ByteArray.toList_eq]
  cases h1 : Op.bytesLess a.toList b.toList
  · by_cases h2 : a.toList = b.toList
    · have b2 : (a.toList == b.toList) = true := by simpa using h2
      rw [if_neg (by simp), if_pos h2]
      clear h2
      go_enter Tryd.func87, Tryd.ntmps87
      go_wp2
      go_ret
      exact ⟨rfl, rfl⟩
    · have b2 : (a.toList == b.toList) = false := by simpa using h2
      rw [if_neg (by simp), if_neg h2]
      clear h2
      go_enter Tryd.func87, Tryd.ntmps87
      go_wp2
      go_ret
      exact ⟨rfl, rfl⟩
  · rw [if_pos rfl]
    go_enter Tryd.func87, Tryd.ntmps87
    go_wp2
    go_ret
    exact ⟨rfl, rfl⟩
theorem bel_dn {B : Nat} {a w : World} (h : Below B a w) (n : Nat) : Below B a (w.drewN n) := ⟨h.os, h.tape, h.output, h.size, h.block⟩
theorem quietEq {P : Program} {f : FuncId} {al : Array Value} {w : World} {n : Nat} {v : Value}
    (h : Calls P f al (w.drewN n) fun e w' => e = .returned v ∧ w.drewN n = w') : Calls P f al (w.drewN n) fun e w'' => e = .returned v ∧ ∃ m, w'' = w.drewN m :=
  h.mono fun _ _ ⟨he, hm⟩ => ⟨he, n, hm.symm⟩
/-- How two terms stand. -/
def cmpZ (k : Int) (s la ty : ByteArray) (k' : Int) (s' la' ty' : ByteArray) : Int :=
  if intsZ (rankZ k) (rankZ k') ≠ 0 then intsZ (rankZ k) (rankZ k') else
  if intsZ k k' ≠ 0 then intsZ k k' else
  if ordZ s.data.toList s'.data.toList ≠ 0 then ordZ s.data.toList s'.data.toList else
  if ordZ la.data.toList la'.data.toList ≠ 0 then ordZ la.data.toList la'.data.toList else ordZ ty.data.toList ty'.data.toList
set_option maxHeartbeats 1600000 in
set_option maxRecDepth 100000 in
theorem compare_any (k : Int) (s la ty : ByteArray) (k' : Int) (s' la' ty' : ByteArray) (w : World) :
    Calls Tryd.prog 65 #[.agg #[.int .i64 k, .string s, .string la, .string ty], .agg #[.int .i64 k', .string s', .string la', .string ty']] w fun e w' => e = .returned (.int .i64 (cmpZ k s la ty k' s' la' ty')) ∧ Below w.heap.size w w' := by
  unfold cmpZ
  have h1 := fun W => ints_any (rankZ k) (rankZ k') W
  have h2 := fun W => ints_any k k' W
  have h3 := fun W => order_any s s' W
  have h4 := fun W => order_any la la' W
  have h5 := fun W => order_any ty ty' W
  generalize intsZ (rankZ k) (rankZ k') = c1 at *
  generalize intsZ k k' = c2 at *
  generalize ordZ s.data.toList s'.data.toList = c3 at *
  generalize ordZ la.data.toList la'.data.toList = c4 at *
  generalize ordZ ty.data.toList ty'.data.toList = c5 at *
  have H1 := Lib.hid h1
  have H2 := Lib.hid h2
  have H3 := Lib.hid h3
  have H4 := Lib.hid h4
  have H5 := Lib.hid h5
  clear h1 h2 h3 h4 h5
  by_cases z1 : c1 = 0
  · rw [if_neg (not_not_intro z1)]
    have b1 : (c1 == 0) = true := by simpa using z1
    clear z1
    by_cases z2 : c2 = 0
    · rw [if_neg (not_not_intro z2)]
      have b2 : (c2 == 0) = true := by simpa using z2
      clear z2
      by_cases z3 : c3 = 0
      · rw [if_neg (not_not_intro z3)]
        have b3 : (c3 == 0) = true := by simpa using z3
        clear z3
        by_cases z4 : c4 = 0
        · rw [if_neg (not_not_intro z4)]
          have b4 : (c4 == 0) = true := by simpa using z4
          clear z4
          go_enter Tryd.func65, Tryd.ntmps65
          go_wp2_with fail
          go_quiet ((first | (with_reducible exact quietEq (H1.out _)) | (with_reducible exact quietEq (rank_any _ _))))
          go_wp2_with (first | ((with_reducible refine (H2.out _).mono ?_); rintro e w' ⟨rfl, rfl⟩) | ((with_reducible refine (H3.out _).mono ?_); rintro e w' ⟨rfl, rfl⟩) | ((with_reducible refine (H4.out _).mono ?_); rintro e w' ⟨rfl, rfl⟩) | ((with_reducible refine (H5.out _).mono ?_); rintro e w' ⟨rfl, rfl⟩))
          go_ret
          exact ⟨rfl, bel_dn (((Below.refl _ w).alloc (Nat.le_refl _) _).alloc (by simp) _) _⟩
        · rw [if_pos z4]
          have b4 : (c4 == 0) = false := by simpa using z4
          clear z4
          go_enter Tryd.func65, Tryd.ntmps65
          go_wp2_with fail
          go_quiet ((first | (with_reducible exact quietEq (H1.out _)) | (with_reducible exact quietEq (rank_any _ _))))
          go_wp2_with (first | ((with_reducible refine (H2.out _).mono ?_); rintro e w' ⟨rfl, rfl⟩) | ((with_reducible refine (H3.out _).mono ?_); rintro e w' ⟨rfl, rfl⟩) | ((with_reducible refine (H4.out _).mono ?_); rintro e w' ⟨rfl, rfl⟩) | ((with_reducible refine (H5.out _).mono ?_); rintro e w' ⟨rfl, rfl⟩))
          go_ret
          exact ⟨rfl, bel_dn (((Below.refl _ w).alloc (Nat.le_refl _) _).alloc (by simp) _) _⟩
      · rw [if_pos z3]
        have b3 : (c3 == 0) = false := by simpa using z3
        clear z3
        go_enter Tryd.func65, Tryd.ntmps65
        go_wp2_with fail
        go_quiet ((first | (with_reducible exact quietEq (H1.out _)) | (with_reducible exact quietEq (rank_any _ _))))
        go_wp2_with (first | ((with_reducible refine (H2.out _).mono ?_); rintro e w' ⟨rfl, rfl⟩) | ((with_reducible refine (H3.out _).mono ?_); rintro e w' ⟨rfl, rfl⟩) | ((with_reducible refine (H4.out _).mono ?_); rintro e w' ⟨rfl, rfl⟩) | ((with_reducible refine (H5.out _).mono ?_); rintro e w' ⟨rfl, rfl⟩))
        go_ret
        exact ⟨rfl, bel_dn (((Below.refl _ w).alloc (Nat.le_refl _) _).alloc (by simp) _) _⟩
    · rw [if_pos z2]
      have b2 : (c2 == 0) = false := by simpa using z2
      clear z2
      go_enter Tryd.func65, Tryd.ntmps65
      go_wp2_with fail
      go_quiet ((first | (with_reducible exact quietEq (H1.out _)) | (with_reducible exact quietEq (rank_any _ _))))
      go_wp2_with (first | ((with_reducible refine (H2.out _).mono ?_); rintro e w' ⟨rfl, rfl⟩) | ((with_reducible refine (H3.out _).mono ?_); rintro e w' ⟨rfl, rfl⟩) | ((with_reducible refine (H4.out _).mono ?_); rintro e w' ⟨rfl, rfl⟩) | ((with_reducible refine (H5.out _).mono ?_); rintro e w' ⟨rfl, rfl⟩))
      go_ret
      exact ⟨rfl, bel_dn (((Below.refl _ w).alloc (Nat.le_refl _) _).alloc (by simp) _) _⟩
  · rw [if_pos z1]
    have b1 : (c1 == 0) = false := by simpa using z1
    clear z1
    go_enter Tryd.func65, Tryd.ntmps65
    go_wp2_with fail
    go_quiet ((first | (with_reducible exact quietEq (H1.out _)) | (with_reducible exact quietEq (rank_any _ _))))
    go_wp2_with (first | ((with_reducible refine (H2.out _).mono ?_); rintro e w' ⟨rfl, rfl⟩) | ((with_reducible refine (H3.out _).mono ?_); rintro e w' ⟨rfl, rfl⟩) | ((with_reducible refine (H4.out _).mono ?_); rintro e w' ⟨rfl, rfl⟩) | ((with_reducible refine (H5.out _).mono ?_); rintro e w' ⟨rfl, rfl⟩))
    go_ret
    exact ⟨rfl, bel_dn (((Below.refl _ w).alloc (Nat.le_refl _) _).alloc (by simp) _) _⟩
end Go.Proofs.YtpgoemlnjocmhaaDoor.Nt
