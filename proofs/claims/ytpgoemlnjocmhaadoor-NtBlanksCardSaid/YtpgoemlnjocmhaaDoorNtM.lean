/-
  A part of the proof of NtBlanks (whatever the input, the law returns true and the input reads as it did): a literal made of a raw one is fine: numbers. Conditions stand at each theorem.
-/
import Derived.Test.YtpgoemlnjocmhaaDoorNtL
namespace Go.Proofs.YtpgoemlnjocmhaaDoor.Nt
open Go.RowKit Go.Proofs.YtpgoemlnjocmhaaDoor.Lex
open Go.Proofs.YtpgoemlnjocmhaaDoorW.PrintWords hiding blk_lt blk_cell blk_frozen
set_option linter.unusedVariables false
set_option linter.unusedSimpArgs false

set_option maxHeartbeats 3200000 in
set_option maxRecDepth 100000 in
theorem good6_lit3 (k : Int) (s la ty : ByteArray) (w : World) (hs : s.size ≤ 140737488351232) (hla : la.size ≤ 140737488351232) (hty : ty.size ≤ 140737488351232) (hk : k % 5 = 3 ∨ k % 5 = 4) (hm : ((la.size : Int) + ty.size) % 5 = 3) :
    Calls Tryd.prog 66 #[.agg #[.int .i64 k, .string s, .string la, .string ty]] w fun e w' => ∃ t : T, t.fine ∧ e = .returned t.val ∧ Below w.heap.size w w' := by
  have HW := Lib.hid (fun W => within6_any k 5 W (by omega) (by omega))
  have HW2 := Lib.hid (fun W => within6_any ((la.size : Int) + ty.size) 5 W (by omega) (by omega))
  have HW3 := Lib.hid (fun W => within6_any (s.size : Int) 6 W (by omega) (by omega))
  have hr : (s.size : Int) % 6 = 0 ∨ (s.size : Int) % 6 = 1 ∨ (s.size : Int) % 6 = 2 ∨ (s.size : Int) % 6 = 3 ∨ (s.size : Int) % 6 = 4 ∨ (s.size : Int) % 6 = 5 := by omega
  rw [hm] at HW2
  clear hm
  rcases hk with hk | hk <;> rw [hk] at HW <;> clear hk <;> rcases hr with hr | hr | hr | hr | hr | hr <;> rw [hr] at HW3 <;> clear hr
  · go_enter Tryd.func66, Tryd.ntmps66
    go_wp2_with (first | ((with_reducible refine (HW.out _).mono ?_); rintro e w' ⟨rfl, rfl⟩) | ((with_reducible refine (HW2.out _).mono ?_); rintro e w' ⟨rfl, rfl⟩) | ((with_reducible refine (HW3.out _).mono ?_); rintro e w' ⟨rfl, rfl⟩))
    refine bodyPost_ret (v := T.val ⟨3, (⟨#[48]⟩ : ByteArray).data.toList, (⟨#[]⟩ : ByteArray).data.toList, (⟨#[104, 116, 116, 112, 58, 47, 47, 119, 119, 119, 46, 119, 51, 46, 111, 114, 103, 47, 50, 48, 48, 49, 47, 88, 77, 76, 83, 99, 104, 101, 109, 97, 35, 100, 101, 99, 105, 109, 97, 108]⟩ : ByteArray).data.toList⟩) (by rw [val_of]; simp [results, Tryd.results66, go_sem]) rfl ?_
    refine ⟨_, Or.inr (Or.inr ⟨rfl, by decide, Or.inr (Or.inr ⟨rfl, by decide, by decide, by decide⟩)⟩), rfl, ?_⟩
    exact ((((Below.refl _ w).alloc (Nat.le_refl _) _).alloc (by simp) _).alloc (by simp; omega) _).alloc (by simp; omega) _
  · go_enter Tryd.func66, Tryd.ntmps66
    go_wp2_with (first | ((with_reducible refine (HW.out _).mono ?_); rintro e w' ⟨rfl, rfl⟩) | ((with_reducible refine (HW2.out _).mono ?_); rintro e w' ⟨rfl, rfl⟩) | ((with_reducible refine (HW3.out _).mono ?_); rintro e w' ⟨rfl, rfl⟩))
    refine bodyPost_ret (v := T.val ⟨3, (⟨#[49]⟩ : ByteArray).data.toList, (⟨#[]⟩ : ByteArray).data.toList, (⟨#[104, 116, 116, 112, 58, 47, 47, 119, 119, 119, 46, 119, 51, 46, 111, 114, 103, 47, 50, 48, 48, 49, 47, 88, 77, 76, 83, 99, 104, 101, 109, 97, 35, 100, 101, 99, 105, 109, 97, 108]⟩ : ByteArray).data.toList⟩) (by rw [val_of]; simp [results, Tryd.results66, go_sem]) rfl ?_
    refine ⟨_, Or.inr (Or.inr ⟨rfl, by decide, Or.inr (Or.inr ⟨rfl, by decide, by decide, by decide⟩)⟩), rfl, ?_⟩
    exact ((((Below.refl _ w).alloc (Nat.le_refl _) _).alloc (by simp) _).alloc (by simp; omega) _).alloc (by simp; omega) _
  · go_enter Tryd.func66, Tryd.ntmps66
    go_wp2_with (first | ((with_reducible refine (HW.out _).mono ?_); rintro e w' ⟨rfl, rfl⟩) | ((with_reducible refine (HW2.out _).mono ?_); rintro e w' ⟨rfl, rfl⟩) | ((with_reducible refine (HW3.out _).mono ?_); rintro e w' ⟨rfl, rfl⟩))
    refine bodyPost_ret (v := T.val ⟨3, (⟨#[45, 55]⟩ : ByteArray).data.toList, (⟨#[]⟩ : ByteArray).data.toList, (⟨#[104, 116, 116, 112, 58, 47, 47, 119, 119, 119, 46, 119, 51, 46, 111, 114, 103, 47, 50, 48, 48, 49, 47, 88, 77, 76, 83, 99, 104, 101, 109, 97, 35, 100, 101, 99, 105, 109, 97, 108]⟩ : ByteArray).data.toList⟩) (by rw [val_of]; simp [results, Tryd.results66, go_sem]) rfl ?_
    refine ⟨_, Or.inr (Or.inr ⟨rfl, by decide, Or.inr (Or.inr ⟨rfl, by decide, by decide, by decide⟩)⟩), rfl, ?_⟩
    exact ((((Below.refl _ w).alloc (Nat.le_refl _) _).alloc (by simp) _).alloc (by simp; omega) _).alloc (by simp; omega) _
  · go_enter Tryd.func66, Tryd.ntmps66
    go_wp2_with (first | ((with_reducible refine (HW.out _).mono ?_); rintro e w' ⟨rfl, rfl⟩) | ((with_reducible refine (HW2.out _).mono ?_); rintro e w' ⟨rfl, rfl⟩) | ((with_reducible refine (HW3.out _).mono ?_); rintro e w' ⟨rfl, rfl⟩))
    refine bodyPost_ret (v := T.val ⟨3, (⟨#[48, 49, 50]⟩ : ByteArray).data.toList, (⟨#[]⟩ : ByteArray).data.toList, (⟨#[104, 116, 116, 112, 58, 47, 47, 119, 119, 119, 46, 119, 51, 46, 111, 114, 103, 47, 50, 48, 48, 49, 47, 88, 77, 76, 83, 99, 104, 101, 109, 97, 35, 100, 101, 99, 105, 109, 97, 108]⟩ : ByteArray).data.toList⟩) (by rw [val_of]; simp [results, Tryd.results66, go_sem]) rfl ?_
    refine ⟨_, Or.inr (Or.inr ⟨rfl, by decide, Or.inr (Or.inr ⟨rfl, by decide, by decide, by decide⟩)⟩), rfl, ?_⟩
    exact ((((Below.refl _ w).alloc (Nat.le_refl _) _).alloc (by simp) _).alloc (by simp; omega) _).alloc (by simp; omega) _
  · go_enter Tryd.func66, Tryd.ntmps66
    go_wp2_with (first | ((with_reducible refine (HW.out _).mono ?_); rintro e w' ⟨rfl, rfl⟩) | ((with_reducible refine (HW2.out _).mono ?_); rintro e w' ⟨rfl, rfl⟩) | ((with_reducible refine (HW3.out _).mono ?_); rintro e w' ⟨rfl, rfl⟩))
    refine bodyPost_ret (v := T.val ⟨3, (⟨#[50, 46, 53, 48]⟩ : ByteArray).data.toList, (⟨#[]⟩ : ByteArray).data.toList, (⟨#[104, 116, 116, 112, 58, 47, 47, 119, 119, 119, 46, 119, 51, 46, 111, 114, 103, 47, 50, 48, 48, 49, 47, 88, 77, 76, 83, 99, 104, 101, 109, 97, 35, 100, 101, 99, 105, 109, 97, 108]⟩ : ByteArray).data.toList⟩) (by rw [val_of]; simp [results, Tryd.results66, go_sem]) rfl ?_
    refine ⟨_, Or.inr (Or.inr ⟨rfl, by decide, Or.inr (Or.inr ⟨rfl, by decide, by decide, by decide⟩)⟩), rfl, ?_⟩
    exact ((((Below.refl _ w).alloc (Nat.le_refl _) _).alloc (by simp) _).alloc (by simp; omega) _).alloc (by simp; omega) _
  · go_enter Tryd.func66, Tryd.ntmps66
    go_wp2_with (first | ((with_reducible refine (HW.out _).mono ?_); rintro e w' ⟨rfl, rfl⟩) | ((with_reducible refine (HW2.out _).mono ?_); rintro e w' ⟨rfl, rfl⟩) | ((with_reducible refine (HW3.out _).mono ?_); rintro e w' ⟨rfl, rfl⟩))
    refine bodyPost_ret (v := T.val ⟨3, (⟨#[120]⟩ : ByteArray).data.toList, (⟨#[]⟩ : ByteArray).data.toList, (⟨#[104, 116, 116, 112, 58, 47, 47, 119, 119, 119, 46, 119, 51, 46, 111, 114, 103, 47, 50, 48, 48, 49, 47, 88, 77, 76, 83, 99, 104, 101, 109, 97, 35, 100, 101, 99, 105, 109, 97, 108]⟩ : ByteArray).data.toList⟩) (by rw [val_of]; simp [results, Tryd.results66, go_sem]) rfl ?_
    refine ⟨_, Or.inr (Or.inr ⟨rfl, by decide, Or.inr (Or.inr ⟨rfl, by decide, by decide, by decide⟩)⟩), rfl, ?_⟩
    exact ((((Below.refl _ w).alloc (Nat.le_refl _) _).alloc (by simp) _).alloc (by simp; omega) _).alloc (by simp; omega) _
  · go_enter Tryd.func66, Tryd.ntmps66
    go_wp2_with (first | ((with_reducible refine (HW.out _).mono ?_); rintro e w' ⟨rfl, rfl⟩) | ((with_reducible refine (HW2.out _).mono ?_); rintro e w' ⟨rfl, rfl⟩) | ((with_reducible refine (HW3.out _).mono ?_); rintro e w' ⟨rfl, rfl⟩))
    refine bodyPost_ret (v := T.val ⟨3, (⟨#[48]⟩ : ByteArray).data.toList, (⟨#[]⟩ : ByteArray).data.toList, (⟨#[104, 116, 116, 112, 58, 47, 47, 119, 119, 119, 46, 119, 51, 46, 111, 114, 103, 47, 50, 48, 48, 49, 47, 88, 77, 76, 83, 99, 104, 101, 109, 97, 35, 100, 101, 99, 105, 109, 97, 108]⟩ : ByteArray).data.toList⟩) (by rw [val_of]; simp [results, Tryd.results66, go_sem]) rfl ?_
    refine ⟨_, Or.inr (Or.inr ⟨rfl, by decide, Or.inr (Or.inr ⟨rfl, by decide, by decide, by decide⟩)⟩), rfl, ?_⟩
    exact ((((Below.refl _ w).alloc (Nat.le_refl _) _).alloc (by simp) _).alloc (by simp; omega) _).alloc (by simp; omega) _
  · go_enter Tryd.func66, Tryd.ntmps66
    go_wp2_with (first | ((with_reducible refine (HW.out _).mono ?_); rintro e w' ⟨rfl, rfl⟩) | ((with_reducible refine (HW2.out _).mono ?_); rintro e w' ⟨rfl, rfl⟩) | ((with_reducible refine (HW3.out _).mono ?_); rintro e w' ⟨rfl, rfl⟩))
    refine bodyPost_ret (v := T.val ⟨3, (⟨#[49]⟩ : ByteArray).data.toList, (⟨#[]⟩ : ByteArray).data.toList, (⟨#[104, 116, 116, 112, 58, 47, 47, 119, 119, 119, 46, 119, 51, 46, 111, 114, 103, 47, 50, 48, 48, 49, 47, 88, 77, 76, 83, 99, 104, 101, 109, 97, 35, 100, 101, 99, 105, 109, 97, 108]⟩ : ByteArray).data.toList⟩) (by rw [val_of]; simp [results, Tryd.results66, go_sem]) rfl ?_
    refine ⟨_, Or.inr (Or.inr ⟨rfl, by decide, Or.inr (Or.inr ⟨rfl, by decide, by decide, by decide⟩)⟩), rfl, ?_⟩
    exact ((((Below.refl _ w).alloc (Nat.le_refl _) _).alloc (by simp) _).alloc (by simp; omega) _).alloc (by simp; omega) _
  · go_enter Tryd.func66, Tryd.ntmps66
    go_wp2_with (first | ((with_reducible refine (HW.out _).mono ?_); rintro e w' ⟨rfl, rfl⟩) | ((with_reducible refine (HW2.out _).mono ?_); rintro e w' ⟨rfl, rfl⟩) | ((with_reducible refine (HW3.out _).mono ?_); rintro e w' ⟨rfl, rfl⟩))
    refine bodyPost_ret (v := T.val ⟨3, (⟨#[45, 55]⟩ : ByteArray).data.toList, (⟨#[]⟩ : ByteArray).data.toList, (⟨#[104, 116, 116, 112, 58, 47, 47, 119, 119, 119, 46, 119, 51, 46, 111, 114, 103, 47, 50, 48, 48, 49, 47, 88, 77, 76, 83, 99, 104, 101, 109, 97, 35, 100, 101, 99, 105, 109, 97, 108]⟩ : ByteArray).data.toList⟩) (by rw [val_of]; simp [results, Tryd.results66, go_sem]) rfl ?_
    refine ⟨_, Or.inr (Or.inr ⟨rfl, by decide, Or.inr (Or.inr ⟨rfl, by decide, by decide, by decide⟩)⟩), rfl, ?_⟩
    exact ((((Below.refl _ w).alloc (Nat.le_refl _) _).alloc (by simp) _).alloc (by simp; omega) _).alloc (by simp; omega) _
  · go_enter Tryd.func66, Tryd.ntmps66
    go_wp2_with (first | ((with_reducible refine (HW.out _).mono ?_); rintro e w' ⟨rfl, rfl⟩) | ((with_reducible refine (HW2.out _).mono ?_); rintro e w' ⟨rfl, rfl⟩) | ((with_reducible refine (HW3.out _).mono ?_); rintro e w' ⟨rfl, rfl⟩))
    refine bodyPost_ret (v := T.val ⟨3, (⟨#[48, 49, 50]⟩ : ByteArray).data.toList, (⟨#[]⟩ : ByteArray).data.toList, (⟨#[104, 116, 116, 112, 58, 47, 47, 119, 119, 119, 46, 119, 51, 46, 111, 114, 103, 47, 50, 48, 48, 49, 47, 88, 77, 76, 83, 99, 104, 101, 109, 97, 35, 100, 101, 99, 105, 109, 97, 108]⟩ : ByteArray).data.toList⟩) (by rw [val_of]; simp [results, Tryd.results66, go_sem]) rfl ?_
    refine ⟨_, Or.inr (Or.inr ⟨rfl, by decide, Or.inr (Or.inr ⟨rfl, by decide, by decide, by decide⟩)⟩), rfl, ?_⟩
    exact ((((Below.refl _ w).alloc (Nat.le_refl _) _).alloc (by simp) _).alloc (by simp; omega) _).alloc (by simp; omega) _
  · go_enter Tryd.func66, Tryd.ntmps66
    go_wp2_with (first | ((with_reducible refine (HW.out _).mono ?_); rintro e w' ⟨rfl, rfl⟩) | ((with_reducible refine (HW2.out _).mono ?_); rintro e w' ⟨rfl, rfl⟩) | ((with_reducible refine (HW3.out _).mono ?_); rintro e w' ⟨rfl, rfl⟩))
    refine bodyPost_ret (v := T.val ⟨3, (⟨#[50, 46, 53, 48]⟩ : ByteArray).data.toList, (⟨#[]⟩ : ByteArray).data.toList, (⟨#[104, 116, 116, 112, 58, 47, 47, 119, 119, 119, 46, 119, 51, 46, 111, 114, 103, 47, 50, 48, 48, 49, 47, 88, 77, 76, 83, 99, 104, 101, 109, 97, 35, 100, 101, 99, 105, 109, 97, 108]⟩ : ByteArray).data.toList⟩) (by rw [val_of]; simp [results, Tryd.results66, go_sem]) rfl ?_
    refine ⟨_, Or.inr (Or.inr ⟨rfl, by decide, Or.inr (Or.inr ⟨rfl, by decide, by decide, by decide⟩)⟩), rfl, ?_⟩
    exact ((((Below.refl _ w).alloc (Nat.le_refl _) _).alloc (by simp) _).alloc (by simp; omega) _).alloc (by simp; omega) _
  · go_enter Tryd.func66, Tryd.ntmps66
    go_wp2_with (first | ((with_reducible refine (HW.out _).mono ?_); rintro e w' ⟨rfl, rfl⟩) | ((with_reducible refine (HW2.out _).mono ?_); rintro e w' ⟨rfl, rfl⟩) | ((with_reducible refine (HW3.out _).mono ?_); rintro e w' ⟨rfl, rfl⟩))
    refine bodyPost_ret (v := T.val ⟨3, (⟨#[120]⟩ : ByteArray).data.toList, (⟨#[]⟩ : ByteArray).data.toList, (⟨#[104, 116, 116, 112, 58, 47, 47, 119, 119, 119, 46, 119, 51, 46, 111, 114, 103, 47, 50, 48, 48, 49, 47, 88, 77, 76, 83, 99, 104, 101, 109, 97, 35, 100, 101, 99, 105, 109, 97, 108]⟩ : ByteArray).data.toList⟩) (by rw [val_of]; simp [results, Tryd.results66, go_sem]) rfl ?_
    refine ⟨_, Or.inr (Or.inr ⟨rfl, by decide, Or.inr (Or.inr ⟨rfl, by decide, by decide, by decide⟩)⟩), rfl, ?_⟩
    exact ((((Below.refl _ w).alloc (Nat.le_refl _) _).alloc (by simp) _).alloc (by simp; omega) _).alloc (by simp; omega) _
set_option maxHeartbeats 3200000 in
set_option maxRecDepth 100000 in
theorem good6_lit4 (k : Int) (s la ty : ByteArray) (w : World) (hs : s.size ≤ 140737488351232) (hla : la.size ≤ 140737488351232) (hty : ty.size ≤ 140737488351232) (hk : k % 5 = 3 ∨ k % 5 = 4) (hm : ((la.size : Int) + ty.size) % 5 = 4) :
    Calls Tryd.prog 66 #[.agg #[.int .i64 k, .string s, .string la, .string ty]] w fun e w' => ∃ t : T, t.fine ∧ e = .returned t.val ∧ Below w.heap.size w w' := by
  have HW := Lib.hid (fun W => within6_any k 5 W (by omega) (by omega))
  have HW2 := Lib.hid (fun W => within6_any ((la.size : Int) + ty.size) 5 W (by omega) (by omega))
  have HW3 := Lib.hid (fun W => within6_any (s.size : Int) 6 W (by omega) (by omega))
  have hr : (s.size : Int) % 6 = 0 ∨ (s.size : Int) % 6 = 1 ∨ (s.size : Int) % 6 = 2 ∨ (s.size : Int) % 6 = 3 ∨ (s.size : Int) % 6 = 4 ∨ (s.size : Int) % 6 = 5 := by omega
  rw [hm] at HW2
  clear hm
  rcases hk with hk | hk <;> rw [hk] at HW <;> clear hk <;> rcases hr with hr | hr | hr | hr | hr | hr <;> rw [hr] at HW3 <;> clear hr
  · go_enter Tryd.func66, Tryd.ntmps66
    go_wp2_with (first | ((with_reducible refine (HW.out _).mono ?_); rintro e w' ⟨rfl, rfl⟩) | ((with_reducible refine (HW2.out _).mono ?_); rintro e w' ⟨rfl, rfl⟩) | ((with_reducible refine (HW3.out _).mono ?_); rintro e w' ⟨rfl, rfl⟩))
    refine bodyPost_ret (v := T.val ⟨3, (⟨#[48]⟩ : ByteArray).data.toList, (⟨#[]⟩ : ByteArray).data.toList, (⟨#[104, 116, 116, 112, 58, 47, 47, 119, 119, 119, 46, 119, 51, 46, 111, 114, 103, 47, 50, 48, 48, 49, 47, 88, 77, 76, 83, 99, 104, 101, 109, 97, 35, 105, 110, 116, 101, 103, 101, 114]⟩ : ByteArray).data.toList⟩) (by rw [val_of]; simp [results, Tryd.results66, go_sem]) rfl ?_
    refine ⟨_, Or.inr (Or.inr ⟨rfl, by decide, Or.inr (Or.inr ⟨rfl, by decide, by decide, by decide⟩)⟩), rfl, ?_⟩
    exact ((((Below.refl _ w).alloc (Nat.le_refl _) _).alloc (by simp) _).alloc (by simp; omega) _).alloc (by simp; omega) _
  · go_enter Tryd.func66, Tryd.ntmps66
    go_wp2_with (first | ((with_reducible refine (HW.out _).mono ?_); rintro e w' ⟨rfl, rfl⟩) | ((with_reducible refine (HW2.out _).mono ?_); rintro e w' ⟨rfl, rfl⟩) | ((with_reducible refine (HW3.out _).mono ?_); rintro e w' ⟨rfl, rfl⟩))
    refine bodyPost_ret (v := T.val ⟨3, (⟨#[53]⟩ : ByteArray).data.toList, (⟨#[]⟩ : ByteArray).data.toList, (⟨#[104, 116, 116, 112, 58, 47, 47, 119, 119, 119, 46, 119, 51, 46, 111, 114, 103, 47, 50, 48, 48, 49, 47, 88, 77, 76, 83, 99, 104, 101, 109, 97, 35, 105, 110, 116, 101, 103, 101, 114]⟩ : ByteArray).data.toList⟩) (by rw [val_of]; simp [results, Tryd.results66, go_sem]) rfl ?_
    refine ⟨_, Or.inr (Or.inr ⟨rfl, by decide, Or.inr (Or.inr ⟨rfl, by decide, by decide, by decide⟩)⟩), rfl, ?_⟩
    exact ((((Below.refl _ w).alloc (Nat.le_refl _) _).alloc (by simp) _).alloc (by simp; omega) _).alloc (by simp; omega) _
  · go_enter Tryd.func66, Tryd.ntmps66
    go_wp2_with (first | ((with_reducible refine (HW.out _).mono ?_); rintro e w' ⟨rfl, rfl⟩) | ((with_reducible refine (HW2.out _).mono ?_); rintro e w' ⟨rfl, rfl⟩) | ((with_reducible refine (HW3.out _).mono ?_); rintro e w' ⟨rfl, rfl⟩))
    refine bodyPost_ret (v := T.val ⟨3, (⟨#[45, 55]⟩ : ByteArray).data.toList, (⟨#[]⟩ : ByteArray).data.toList, (⟨#[104, 116, 116, 112, 58, 47, 47, 119, 119, 119, 46, 119, 51, 46, 111, 114, 103, 47, 50, 48, 48, 49, 47, 88, 77, 76, 83, 99, 104, 101, 109, 97, 35, 105, 110, 116, 101, 103, 101, 114]⟩ : ByteArray).data.toList⟩) (by rw [val_of]; simp [results, Tryd.results66, go_sem]) rfl ?_
    refine ⟨_, Or.inr (Or.inr ⟨rfl, by decide, Or.inr (Or.inr ⟨rfl, by decide, by decide, by decide⟩)⟩), rfl, ?_⟩
    exact ((((Below.refl _ w).alloc (Nat.le_refl _) _).alloc (by simp) _).alloc (by simp; omega) _).alloc (by simp; omega) _
  · go_enter Tryd.func66, Tryd.ntmps66
    go_wp2_with (first | ((with_reducible refine (HW.out _).mono ?_); rintro e w' ⟨rfl, rfl⟩) | ((with_reducible refine (HW2.out _).mono ?_); rintro e w' ⟨rfl, rfl⟩) | ((with_reducible refine (HW3.out _).mono ?_); rintro e w' ⟨rfl, rfl⟩))
    refine bodyPost_ret (v := T.val ⟨3, (⟨#[48, 49, 50]⟩ : ByteArray).data.toList, (⟨#[]⟩ : ByteArray).data.toList, (⟨#[104, 116, 116, 112, 58, 47, 47, 119, 119, 119, 46, 119, 51, 46, 111, 114, 103, 47, 50, 48, 48, 49, 47, 88, 77, 76, 83, 99, 104, 101, 109, 97, 35, 105, 110, 116, 101, 103, 101, 114]⟩ : ByteArray).data.toList⟩) (by rw [val_of]; simp [results, Tryd.results66, go_sem]) rfl ?_
    refine ⟨_, Or.inr (Or.inr ⟨rfl, by decide, Or.inr (Or.inr ⟨rfl, by decide, by decide, by decide⟩)⟩), rfl, ?_⟩
    exact ((((Below.refl _ w).alloc (Nat.le_refl _) _).alloc (by simp) _).alloc (by simp; omega) _).alloc (by simp; omega) _
  · go_enter Tryd.func66, Tryd.ntmps66
    go_wp2_with (first | ((with_reducible refine (HW.out _).mono ?_); rintro e w' ⟨rfl, rfl⟩) | ((with_reducible refine (HW2.out _).mono ?_); rintro e w' ⟨rfl, rfl⟩) | ((with_reducible refine (HW3.out _).mono ?_); rintro e w' ⟨rfl, rfl⟩))
    refine bodyPost_ret (v := T.val ⟨3, (⟨#[57, 57]⟩ : ByteArray).data.toList, (⟨#[]⟩ : ByteArray).data.toList, (⟨#[104, 116, 116, 112, 58, 47, 47, 119, 119, 119, 46, 119, 51, 46, 111, 114, 103, 47, 50, 48, 48, 49, 47, 88, 77, 76, 83, 99, 104, 101, 109, 97, 35, 105, 110, 116, 101, 103, 101, 114]⟩ : ByteArray).data.toList⟩) (by rw [val_of]; simp [results, Tryd.results66, go_sem]) rfl ?_
    refine ⟨_, Or.inr (Or.inr ⟨rfl, by decide, Or.inr (Or.inr ⟨rfl, by decide, by decide, by decide⟩)⟩), rfl, ?_⟩
    exact ((((Below.refl _ w).alloc (Nat.le_refl _) _).alloc (by simp) _).alloc (by simp; omega) _).alloc (by simp; omega) _
  · go_enter Tryd.func66, Tryd.ntmps66
    go_wp2_with (first | ((with_reducible refine (HW.out _).mono ?_); rintro e w' ⟨rfl, rfl⟩) | ((with_reducible refine (HW2.out _).mono ?_); rintro e w' ⟨rfl, rfl⟩) | ((with_reducible refine (HW3.out _).mono ?_); rintro e w' ⟨rfl, rfl⟩))
    refine bodyPost_ret (v := T.val ⟨3, (⟨#[49, 46, 53]⟩ : ByteArray).data.toList, (⟨#[]⟩ : ByteArray).data.toList, (⟨#[104, 116, 116, 112, 58, 47, 47, 119, 119, 119, 46, 119, 51, 46, 111, 114, 103, 47, 50, 48, 48, 49, 47, 88, 77, 76, 83, 99, 104, 101, 109, 97, 35, 105, 110, 116, 101, 103, 101, 114]⟩ : ByteArray).data.toList⟩) (by rw [val_of]; simp [results, Tryd.results66, go_sem]) rfl ?_
    refine ⟨_, Or.inr (Or.inr ⟨rfl, by decide, Or.inr (Or.inr ⟨rfl, by decide, by decide, by decide⟩)⟩), rfl, ?_⟩
    exact ((((Below.refl _ w).alloc (Nat.le_refl _) _).alloc (by simp) _).alloc (by simp; omega) _).alloc (by simp; omega) _
  · go_enter Tryd.func66, Tryd.ntmps66
    go_wp2_with (first | ((with_reducible refine (HW.out _).mono ?_); rintro e w' ⟨rfl, rfl⟩) | ((with_reducible refine (HW2.out _).mono ?_); rintro e w' ⟨rfl, rfl⟩) | ((with_reducible refine (HW3.out _).mono ?_); rintro e w' ⟨rfl, rfl⟩))
    refine bodyPost_ret (v := T.val ⟨3, (⟨#[48]⟩ : ByteArray).data.toList, (⟨#[]⟩ : ByteArray).data.toList, (⟨#[104, 116, 116, 112, 58, 47, 47, 119, 119, 119, 46, 119, 51, 46, 111, 114, 103, 47, 50, 48, 48, 49, 47, 88, 77, 76, 83, 99, 104, 101, 109, 97, 35, 105, 110, 116, 101, 103, 101, 114]⟩ : ByteArray).data.toList⟩) (by rw [val_of]; simp [results, Tryd.results66, go_sem]) rfl ?_
    refine ⟨_, Or.inr (Or.inr ⟨rfl, by decide, Or.inr (Or.inr ⟨rfl, by decide, by decide, by decide⟩)⟩), rfl, ?_⟩
    exact ((((Below.refl _ w).alloc (Nat.le_refl _) _).alloc (by simp) _).alloc (by simp; omega) _).alloc (by simp; omega) _
  · go_enter Tryd.func66, Tryd.ntmps66
    go_wp2_with (first | ((with_reducible refine (HW.out _).mono ?_); rintro e w' ⟨rfl, rfl⟩) | ((with_reducible refine (HW2.out _).mono ?_); rintro e w' ⟨rfl, rfl⟩) | ((with_reducible refine (HW3.out _).mono ?_); rintro e w' ⟨rfl, rfl⟩))
    refine bodyPost_ret (v := T.val ⟨3, (⟨#[53]⟩ : ByteArray).data.toList, (⟨#[]⟩ : ByteArray).data.toList, (⟨#[104, 116, 116, 112, 58, 47, 47, 119, 119, 119, 46, 119, 51, 46, 111, 114, 103, 47, 50, 48, 48, 49, 47, 88, 77, 76, 83, 99, 104, 101, 109, 97, 35, 105, 110, 116, 101, 103, 101, 114]⟩ : ByteArray).data.toList⟩) (by rw [val_of]; simp [results, Tryd.results66, go_sem]) rfl ?_
    refine ⟨_, Or.inr (Or.inr ⟨rfl, by decide, Or.inr (Or.inr ⟨rfl, by decide, by decide, by decide⟩)⟩), rfl, ?_⟩
    exact ((((Below.refl _ w).alloc (Nat.le_refl _) _).alloc (by simp) _).alloc (by simp; omega) _).alloc (by simp; omega) _
  · go_enter Tryd.func66, Tryd.ntmps66
    go_wp2_with (first | ((with_reducible refine (HW.out _).mono ?_); rintro e w' ⟨rfl, rfl⟩) | ((with_reducible refine (HW2.out _).mono ?_); rintro e w' ⟨rfl, rfl⟩) | ((with_reducible refine (HW3.out _).mono ?_); rintro e w' ⟨rfl, rfl⟩))
    refine bodyPost_ret (v := T.val ⟨3, (⟨#[45, 55]⟩ : ByteArray).data.toList, (⟨#[]⟩ : ByteArray).data.toList, (⟨#[104, 116, 116, 112, 58, 47, 47, 119, 119, 119, 46, 119, 51, 46, 111, 114, 103, 47, 50, 48, 48, 49, 47, 88, 77, 76, 83, 99, 104, 101, 109, 97, 35, 105, 110, 116, 101, 103, 101, 114]⟩ : ByteArray).data.toList⟩) (by rw [val_of]; simp [results, Tryd.results66, go_sem]) rfl ?_
    refine ⟨_, Or.inr (Or.inr ⟨rfl, by decide, Or.inr (Or.inr ⟨rfl, by decide, by decide, by decide⟩)⟩), rfl, ?_⟩
    exact ((((Below.refl _ w).alloc (Nat.le_refl _) _).alloc (by simp) _).alloc (by simp; omega) _).alloc (by simp; omega) _
  · go_enter Tryd.func66, Tryd.ntmps66
    go_wp2_with (first | ((with_reducible refine (HW.out _).mono ?_); rintro e w' ⟨rfl, rfl⟩) | ((with_reducible refine (HW2.out _).mono ?_); rintro e w' ⟨rfl, rfl⟩) | ((with_reducible refine (HW3.out _).mono ?_); rintro e w' ⟨rfl, rfl⟩))
    refine bodyPost_ret (v := T.val ⟨3, (⟨#[48, 49, 50]⟩ : ByteArray).data.toList, (⟨#[]⟩ : ByteArray).data.toList, (⟨#[104, 116, 116, 112, 58, 47, 47, 119, 119, 119, 46, 119, 51, 46, 111, 114, 103, 47, 50, 48, 48, 49, 47, 88, 77, 76, 83, 99, 104, 101, 109, 97, 35, 105, 110, 116, 101, 103, 101, 114]⟩ : ByteArray).data.toList⟩) (by rw [val_of]; simp [results, Tryd.results66, go_sem]) rfl ?_
    refine ⟨_, Or.inr (Or.inr ⟨rfl, by decide, Or.inr (Or.inr ⟨rfl, by decide, by decide, by decide⟩)⟩), rfl, ?_⟩
    exact ((((Below.refl _ w).alloc (Nat.le_refl _) _).alloc (by simp) _).alloc (by simp; omega) _).alloc (by simp; omega) _
  · go_enter Tryd.func66, Tryd.ntmps66
    go_wp2_with (first | ((with_reducible refine (HW.out _).mono ?_); rintro e w' ⟨rfl, rfl⟩) | ((with_reducible refine (HW2.out _).mono ?_); rintro e w' ⟨rfl, rfl⟩) | ((with_reducible refine (HW3.out _).mono ?_); rintro e w' ⟨rfl, rfl⟩))
    refine bodyPost_ret (v := T.val ⟨3, (⟨#[57, 57]⟩ : ByteArray).data.toList, (⟨#[]⟩ : ByteArray).data.toList, (⟨#[104, 116, 116, 112, 58, 47, 47, 119, 119, 119, 46, 119, 51, 46, 111, 114, 103, 47, 50, 48, 48, 49, 47, 88, 77, 76, 83, 99, 104, 101, 109, 97, 35, 105, 110, 116, 101, 103, 101, 114]⟩ : ByteArray).data.toList⟩) (by rw [val_of]; simp [results, Tryd.results66, go_sem]) rfl ?_
    refine ⟨_, Or.inr (Or.inr ⟨rfl, by decide, Or.inr (Or.inr ⟨rfl, by decide, by decide, by decide⟩)⟩), rfl, ?_⟩
    exact ((((Below.refl _ w).alloc (Nat.le_refl _) _).alloc (by simp) _).alloc (by simp; omega) _).alloc (by simp; omega) _
  · go_enter Tryd.func66, Tryd.ntmps66
    go_wp2_with (first | ((with_reducible refine (HW.out _).mono ?_); rintro e w' ⟨rfl, rfl⟩) | ((with_reducible refine (HW2.out _).mono ?_); rintro e w' ⟨rfl, rfl⟩) | ((with_reducible refine (HW3.out _).mono ?_); rintro e w' ⟨rfl, rfl⟩))
    refine bodyPost_ret (v := T.val ⟨3, (⟨#[49, 46, 53]⟩ : ByteArray).data.toList, (⟨#[]⟩ : ByteArray).data.toList, (⟨#[104, 116, 116, 112, 58, 47, 47, 119, 119, 119, 46, 119, 51, 46, 111, 114, 103, 47, 50, 48, 48, 49, 47, 88, 77, 76, 83, 99, 104, 101, 109, 97, 35, 105, 110, 116, 101, 103, 101, 114]⟩ : ByteArray).data.toList⟩) (by rw [val_of]; simp [results, Tryd.results66, go_sem]) rfl ?_
    refine ⟨_, Or.inr (Or.inr ⟨rfl, by decide, Or.inr (Or.inr ⟨rfl, by decide, by decide, by decide⟩)⟩), rfl, ?_⟩
    exact ((((Below.refl _ w).alloc (Nat.le_refl _) _).alloc (by simp) _).alloc (by simp; omega) _).alloc (by simp; omega) _
end Go.Proofs.YtpgoemlnjocmhaaDoor.Nt
