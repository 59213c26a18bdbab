/-
  A part of the proof of NtBlanks (whatever the input, the law returns true and the input reads as it did): a term made of a raw one is fine. Conditions stand at each theorem.
-/
import Derived.Test.YtpgoemlnjocmhaaDoorNtJ
namespace Go.Proofs.YtpgoemlnjocmhaaDoor.Nt
open Go.RowKit Go.Proofs.YtpgoemlnjocmhaaDoor.Lex
open Go.Proofs.YtpgoemlnjocmhaaDoorW.PrintWords hiding blk_lt blk_cell blk_frozen
set_option linter.unusedVariables false
set_option linter.unusedSimpArgs false

theorem val_of (k : Int) (s la ty : ByteArray) : T.val ⟨k, s.data.toList, la.data.toList, ty.data.toList⟩ = .agg #[.int .i64 k, .string s, .string la, .string ty] := by
  unfold T.val tval
  simp
theorem bel4 {B n : Nat} {w w1 : World} (h : Below B w w1) (hn : B ≤ n) (a b c d : Value) : Below B w ((((w1.setCell ⟨n, 0, none⟩ a).setCell ⟨n, 1, none⟩ b).setCell ⟨n, 2, none⟩ c).setCell ⟨n, 3, none⟩ d) :=
  (((h.setCell (p := ⟨n, 0, none⟩) hn a).setCell (p := ⟨n, 1, none⟩) hn b).setCell (p := ⟨n, 2, none⟩) hn c).setCell (p := ⟨n, 3, none⟩) hn d
theorem fine_iri (o : ByteArray) (h : Lets o) (hz : (o.size : Int) ≤ 8) (p : ByteArray) (hp : ∀ c ∈ p.data.toList, signB (c.toNat : Int) = true) (hp0 : 0 < p.size) (hp9 : p.size ≤ 9) : T.fine ⟨1, (p ++ o).data.toList, (⟨#[]⟩ : ByteArray).data.toList, (⟨#[]⟩ : ByteArray).data.toList⟩ := by
  left
  have hz2 : (p ++ o).data.toList.length = p.size + o.size := by
    rw [ByteArray.data_append, Array.toList_append, List.length_append, Array.length_toList, Array.length_toList]; rfl
  refine ⟨rfl, rfl, rfl, ?_, ?_, ?_⟩
  · intro h0
    simp only at h0
    rw [h0] at hz2
    simp at hz2
    omega
  · simp only
    omega
  · intro c hc
    simp only at hc
    rw [ByteArray.data_append, Array.toList_append, List.mem_append] at hc
    rcases hc with hc | hc
    · exact hp c hc
    · have := h c hc
      have h5 : c.toNat = 97 ∨ c.toNat = 98 ∨ c.toNat = 99 ∨ c.toNat = 100 ∨ c.toNat = 101 := by omega
      rcases h5 with h5 | h5 | h5 | h5 | h5 <;> rw [h5] <;> decide
set_option maxHeartbeats 1600000 in
set_option maxRecDepth 100000 in
theorem good6_iri (k : Int) (s la ty : ByteArray) (w : World) (hs : s.size ≤ 140737488351232) (hk : k % 5 = 0 ∨ k % 5 = 1) :
    Calls Tryd.prog 66 #[.agg #[.int .i64 k, .string s, .string la, .string ty]] w fun e w' => ∃ t : T, t.fine ∧ e = .returned t.val ∧ Below w.heap.size w w' := by
  have HW := Lib.hid (fun W => within6_any k 5 W (by omega) (by omega))
  have HT := Lib.hid (fun W => letters_any s 8 W hs (by omega) (by omega))
  have hb0 := Blk4.new (w.alloc (.cells #[.int .i64 k, .string s, .string la, .string ty] 40 (0, 0))) (.int .i64 0) (.string ⟨#[]⟩) (.string ⟨#[]⟩) (.string ⟨#[]⟩)
  have hz0 : (w.alloc (.cells #[.int .i64 k, .string s, .string la, .string ty] 40 (0, 0))).heap.size = w.heap.size + 1 := by simp
  rw [hz0] at hb0
  have HB0 := Lib.hid hb0
  clear hb0
  rcases hk with hk | hk <;> rw [hk] at HW <;> clear hk
  all_goals
    go_enter Tryd.func66, Tryd.ntmps66
    go_wp2_with ((with_reducible refine (HW.out _).mono ?_); rintro e w' ⟨rfl, rfl⟩)
    refine (HT.out _).mono ?_
    rintro e w1 ⟨o, rfl, ho, hoz, hb1⟩
    have hb : Blk4 w1 (w.heap.size + 1) (.int .i64 0) (.string ⟨#[]⟩) (.string ⟨#[]⟩) (.string ⟨#[]⟩) := by
      unfold Blk4
      rw [hb1.block _ (by simp)]
      exact HB0.out
    have e0 := hb.c0
    have e1 := hb.c1
    have e2 := hb.c2
    have e3 := hb.c3
    have ef := hb.free
    have HB1 := Lib.hid hb1
    have hsum : 9 + o.size ≤ 9223372036854775807 := by omega
    clear hb1 hb
    go_wp2
    refine bodyPost_ret (v := T.val ⟨1, ((⟨#[104, 116, 116, 112, 58, 47, 47, 120, 47]⟩ : ByteArray) ++ o).data.toList, (⟨#[]⟩ : ByteArray).data.toList, (⟨#[]⟩ : ByteArray).data.toList⟩) (by rw [val_of]; simp [results, Tryd.results66, go_sem, e0, e1, e2, e3, ef]) rfl ?_
    refine ⟨_, fine_iri o ho hoz _ (by decide) (by decide) (by decide), rfl, ?_⟩
    exact bel4 (((Below.refl _ w).alloc (Nat.le_refl _) _).alloc (by simp) _ |>.trans (HB1.out.mono (by simp; omega))) (by omega) _ _ _ _
theorem fine_blank (o : ByteArray) (h : Lets o) (hz : (o.size : Int) ≤ 5) : T.fine ⟨2, ((⟨#[98]⟩ : ByteArray) ++ o).data.toList, (⟨#[]⟩ : ByteArray).data.toList, (⟨#[]⟩ : ByteArray).data.toList⟩ := by
  right; left
  have hz2 : ((⟨#[98]⟩ : ByteArray) ++ o).data.toList.length = 1 + o.size := by
    rw [ByteArray.data_append, Array.toList_append, List.length_append, Array.length_toList, Array.length_toList]; rfl
  refine ⟨rfl, rfl, rfl, ?_, ?_, ?_⟩
  · intro h0
    simp only at h0
    rw [h0] at hz2
    simp at hz2
    omega
  · simp only
    omega
  · intro c hc
    simp only at hc
    rw [ByteArray.data_append, Array.toList_append, List.mem_append] at hc
    rcases hc with hc | hc
    · simp at hc; subst hc; decide
    · have := h c hc
      have h5 : c.toNat = 97 ∨ c.toNat = 98 ∨ c.toNat = 99 ∨ c.toNat = 100 ∨ c.toNat = 101 := by omega
      rcases h5 with h5 | h5 | h5 | h5 | h5 <;> rw [h5] <;> decide
set_option maxHeartbeats 1600000 in
set_option maxRecDepth 100000 in
theorem good6_blank (k : Int) (s la ty : ByteArray) (w : World) (hs : s.size ≤ 140737488351232) (hk : k % 5 = 2) :
    Calls Tryd.prog 66 #[.agg #[.int .i64 k, .string s, .string la, .string ty]] w fun e w' => ∃ t : T, t.fine ∧ e = .returned t.val ∧ Below w.heap.size w w' := by
  have HW := Lib.hid (fun W => within6_any k 5 W (by omega) (by omega))
  have HT := Lib.hid (fun W => letters_any s 5 W hs (by omega) (by omega))
  have hb0 := Blk4.new (w.alloc (.cells #[.int .i64 k, .string s, .string la, .string ty] 40 (0, 0))) (.int .i64 0) (.string ⟨#[]⟩) (.string ⟨#[]⟩) (.string ⟨#[]⟩)
  have hz0 : (w.alloc (.cells #[.int .i64 k, .string s, .string la, .string ty] 40 (0, 0))).heap.size = w.heap.size + 1 := by simp
  rw [hz0] at hb0
  have HB0 := Lib.hid hb0
  clear hb0
  rw [hk] at HW
  clear hk
  all_goals
    go_enter Tryd.func66, Tryd.ntmps66
    go_wp2_with ((with_reducible refine (HW.out _).mono ?_); rintro e w' ⟨rfl, rfl⟩)
    refine (HT.out _).mono ?_
    rintro e w1 ⟨o, rfl, ho, hoz, hb1⟩
    have hb : Blk4 w1 (w.heap.size + 1) (.int .i64 0) (.string ⟨#[]⟩) (.string ⟨#[]⟩) (.string ⟨#[]⟩) := by
      unfold Blk4
      rw [hb1.block _ (by simp)]
      exact HB0.out
    have e0 := hb.c0
    have e1 := hb.c1
    have e2 := hb.c2
    have e3 := hb.c3
    have ef := hb.free
    have HB1 := Lib.hid hb1
    have hsum : 1 + o.size ≤ 9223372036854775807 := by omega
    clear hb1 hb
    go_wp2
    refine bodyPost_ret (v := T.val ⟨2, ((⟨#[98]⟩ : ByteArray) ++ o).data.toList, (⟨#[]⟩ : ByteArray).data.toList, (⟨#[]⟩ : ByteArray).data.toList⟩) (by rw [val_of]; simp [results, Tryd.results66, go_sem, e0, e1, e2, e3, ef]) rfl ?_
    refine ⟨_, fine_blank o ho hoz, rfl, ?_⟩
    exact bel4 (((Below.refl _ w).alloc (Nat.le_refl _) _).alloc (by simp) _ |>.trans (HB1.out.mono (by simp; omega))) (by omega) _ _ _ _
end Go.Proofs.YtpgoemlnjocmhaaDoor.Nt
