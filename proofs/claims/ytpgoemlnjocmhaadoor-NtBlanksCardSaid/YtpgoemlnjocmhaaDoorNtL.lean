/-
  A part of the proof of NtBlanks (whatever the input, the law returns true and the input reads as it did): a literal made of a raw one is fine. Conditions stand at each theorem.
-/
import Derived.Test.YtpgoemlnjocmhaaDoorNtK
namespace Go.Proofs.YtpgoemlnjocmhaaDoor.Nt
open Go.RowKit Go.Proofs.YtpgoemlnjocmhaaDoor.Lex
open Go.Proofs.YtpgoemlnjocmhaaDoorW.PrintWords hiding blk_lt blk_cell blk_frozen
set_option linter.unusedVariables false
set_option linter.unusedSimpArgs false

theorem cut60 (s : ByteArray) : (s.extract 0 (min (s.size : Int) 60).toNat).data.toList.length ≤ 60 := by
  rw [Array.length_toList]
  show (s.extract 0 (min (s.size : Int) 60).toNat).size ≤ 60
  rw [ByteArray.size_extract]
  omega
set_option maxHeartbeats 1600000 in
set_option maxRecDepth 100000 in
theorem good6_lit0 (k : Int) (s la ty : ByteArray) (w : World) (hs : s.size ≤ 140737488351232) (hla : la.size ≤ 140737488351232) (hty : ty.size ≤ 140737488351232) (hk : k % 5 = 3 ∨ k % 5 = 4) (hm : ((la.size : Int) + ty.size) % 5 = 0) :
    Calls Tryd.prog 66 #[.agg #[.int .i64 k, .string s, .string la, .string ty]] w fun e w' => ∃ t : T, t.fine ∧ e = .returned t.val ∧ Below w.heap.size w w' := by
  have HW := Lib.hid (fun W => within6_any k 5 W (by omega) (by omega))
  have HW2 := Lib.hid (fun W => within6_any ((la.size : Int) + ty.size) 5 W (by omega) (by omega))
  rw [hm] at HW2
  clear hm
  rcases hk with hk | hk <;> rw [hk] at HW <;> clear hk
  all_goals
    go_enter Tryd.func66, Tryd.ntmps66
    go_wp2_with (first | ((with_reducible refine (HW.out _).mono ?_); rintro e w' ⟨rfl, rfl⟩) | ((with_reducible refine (HW2.out _).mono ?_); rintro e w' ⟨rfl, rfl⟩))
    refine bodyPost_ret (v := T.val ⟨3, (s.extract 0 (min (s.size : Int) 60).toNat).data.toList, (⟨#[]⟩ : ByteArray).data.toList, (⟨#[]⟩ : ByteArray).data.toList⟩) (by rw [val_of]; simp [results, Tryd.results66, go_sem]) rfl ?_
    refine ⟨_, Or.inr (Or.inr ⟨rfl, cut60 s, Or.inl ⟨rfl, rfl⟩⟩), rfl, ?_⟩
    exact ((((Below.refl _ w).alloc (Nat.le_refl _) _).alloc (by simp) _).alloc (by simp; omega) _)
theorem fine_lang (o : ByteArray) (h : Lets o) (hz : (o.size : Int) ≤ 4) (q : Bs) (hq : q.length ≤ 60) : T.fine ⟨3, q, ((⟨#[108]⟩ : ByteArray) ++ o).data.toList, (⟨#[]⟩ : ByteArray).data.toList⟩ := by
  have hz2 : ((⟨#[108]⟩ : ByteArray) ++ o).data.toList.length = 1 + o.size := by
    rw [ByteArray.data_append, Array.toList_append, List.length_append, Array.length_toList, Array.length_toList]; rfl
  refine Or.inr (Or.inr ⟨rfl, hq, Or.inr (Or.inl ⟨?_, rfl, ?_, ?_⟩)⟩)
  · intro h0
    simp only at h0
    rw [h0] at hz2
    simp at hz2
    omega
  · simp only
    omega
  · intro c hc
    simp only at hc
    rw [ByteArray.data_append, Array.toList_append, List.mem_append] at hc
    rcases hc with hc | hc
    · simp at hc; subst hc; decide
    · have := h c hc
      have h5 : c.toNat = 97 ∨ c.toNat = 98 ∨ c.toNat = 99 ∨ c.toNat = 100 ∨ c.toNat = 101 := by omega
      rcases h5 with h5 | h5 | h5 | h5 | h5 <;> rw [h5] <;> decide
theorem fine_type (o : ByteArray) (h : Lets o) (hz : (o.size : Int) ≤ 6) (q : Bs) (hq : q.length ≤ 60) : T.fine ⟨3, q, (⟨#[]⟩ : ByteArray).data.toList, ((⟨#[116, 58]⟩ : ByteArray) ++ o).data.toList⟩ := by
  have hz2 : ((⟨#[116, 58]⟩ : ByteArray) ++ o).data.toList.length = 2 + o.size := by
    rw [ByteArray.data_append, Array.toList_append, List.length_append, Array.length_toList, Array.length_toList]; rfl
  refine Or.inr (Or.inr ⟨rfl, hq, Or.inr (Or.inr ⟨rfl, ?_, ?_, ?_⟩)⟩)
  · intro h0
    simp only at h0
    rw [h0] at hz2
    simp at hz2
    omega
  · simp only
    omega
  · intro c hc
    simp only at hc
    rw [ByteArray.data_append, Array.toList_append, List.mem_append] at hc
    rcases hc with hc | hc
    · simp at hc; rcases hc with rfl | rfl <;> decide
    · have := h c hc
      have h5 : c.toNat = 97 ∨ c.toNat = 98 ∨ c.toNat = 99 ∨ c.toNat = 100 ∨ c.toNat = 101 := by omega
      rcases h5 with h5 | h5 | h5 | h5 | h5 <;> rw [h5] <;> decide
set_option maxHeartbeats 1600000 in
set_option maxRecDepth 100000 in
theorem good6_lit1 (k : Int) (s la ty : ByteArray) (w : World) (hs : s.size ≤ 140737488351232) (hla : la.size ≤ 140737488351232) (hty : ty.size ≤ 140737488351232) (hk : k % 5 = 3 ∨ k % 5 = 4) (hm : ((la.size : Int) + ty.size) % 5 = 1) :
    Calls Tryd.prog 66 #[.agg #[.int .i64 k, .string s, .string la, .string ty]] w fun e w' => ∃ t : T, t.fine ∧ e = .returned t.val ∧ Below w.heap.size w w' := by
  have HW := Lib.hid (fun W => within6_any k 5 W (by omega) (by omega))
  have HW2 := Lib.hid (fun W => within6_any ((la.size : Int) + ty.size) 5 W (by omega) (by omega))
  have HT := Lib.hid (fun W => letters_any la 4 W hla (by omega) (by omega))
  have hz1 : (w.alloc (.cells #[.int .i64 k, .string s, .string la, .string ty] 40 (0, 0))).heap.size = w.heap.size + 1 := by simp
  have hz2 : ((w.alloc (.cells #[.int .i64 k, .string s, .string la, .string ty] 40 (0, 0))).alloc zero4).heap.size = w.heap.size + 1 + 1 := by simp
  have hA := (Blk4.new (w.alloc (.cells #[.int .i64 k, .string s, .string la, .string ty] 40 (0, 0))) (.int .i64 0) (.string ⟨#[]⟩) (.string ⟨#[]⟩) (.string ⟨#[]⟩)).alloc (.cells #[.int .i64 3, .string (s.extract 0 (min (s.size : Int) 60).toNat), .string ⟨#[]⟩, .string ⟨#[]⟩] 40 (0, 0))
  have hB := Blk4.new ((w.alloc (.cells #[.int .i64 k, .string s, .string la, .string ty] 40 (0, 0))).alloc zero4) (.int .i64 3) (.string (s.extract 0 (min (s.size : Int) 60).toNat)) (.string ⟨#[]⟩) (.string ⟨#[]⟩)
  rw [hz1] at hA
  rw [hz2] at hB
  have HA := Lib.hid hA
  have HB := Lib.hid hB
  clear hA hB
  rw [hm] at HW2
  clear hm
  rcases hk with hk | hk <;> rw [hk] at HW <;> clear hk
  all_goals
    go_enter Tryd.func66, Tryd.ntmps66
    go_wp2_with (first | ((with_reducible refine (HW.out _).mono ?_); rintro e w' ⟨rfl, rfl⟩) | ((with_reducible refine (HW2.out _).mono ?_); rintro e w' ⟨rfl, rfl⟩))
    refine (HT.out _).mono ?_
    rintro e w1 ⟨o, rfl, ho, hoz, hb1⟩
    have hb : Blk4 w1 (w.heap.size + 1) (.int .i64 0) (.string ⟨#[]⟩) (.string ⟨#[]⟩) (.string ⟨#[]⟩) := by
      unfold Blk4
      rw [hb1.block _ (by simp)]
      exact HA.out
    have hd : Blk4 w1 (w.heap.size + 1 + 1) (.int .i64 3) (.string (s.extract 0 (min (s.size : Int) 60).toNat)) (.string ⟨#[]⟩) (.string ⟨#[]⟩) := by
      unfold Blk4
      rw [hb1.block _ (by simp)]
      exact HB.out
    have e0 := hb.c0
    have e1 := hb.c1
    have e2 := hb.c2
    have e3 := hb.c3
    have ef := hb.free
    have d0 := hd.c0
    have d1 := hd.c1
    have d2 := hd.c2
    have d3 := hd.c3
    have df := hd.free
    have HB1 := Lib.hid hb1
    have hsum : 1 + o.size ≤ 9223372036854775807 := by omega
    clear hb1 hb hd
    go_wp2
    refine bodyPost_ret (v := T.val ⟨3, (s.extract 0 (min (s.size : Int) 60).toNat).data.toList, ((⟨#[108]⟩ : ByteArray) ++ o).data.toList, (⟨#[]⟩ : ByteArray).data.toList⟩) (by rw [val_of]; simp [results, Tryd.results66, go_sem, e0, e1, e2, e3, ef, d0, d1, d2, d3, df]) rfl ?_
    refine ⟨_, fine_lang o ho hoz _ (cut60 s), rfl, ?_⟩
    exact bel4 ((((((Below.refl _ w).alloc (Nat.le_refl _) _).alloc (by simp) _).alloc (by simp; omega) _).trans (HB1.out.mono (by simp; omega))).setCell (by show w.heap.size ≤ w.heap.size + 1 + 1; omega) _) (by omega) _ _ _ _
set_option maxHeartbeats 1600000 in
set_option maxRecDepth 100000 in
theorem good6_lit2 (k : Int) (s la ty : ByteArray) (w : World) (hs : s.size ≤ 140737488351232) (hla : la.size ≤ 140737488351232) (hty : ty.size ≤ 140737488351232) (hk : k % 5 = 3 ∨ k % 5 = 4) (hm : ((la.size : Int) + ty.size) % 5 = 2) :
    Calls Tryd.prog 66 #[.agg #[.int .i64 k, .string s, .string la, .string ty]] w fun e w' => ∃ t : T, t.fine ∧ e = .returned t.val ∧ Below w.heap.size w w' := by
  have HW := Lib.hid (fun W => within6_any k 5 W (by omega) (by omega))
  have HW2 := Lib.hid (fun W => within6_any ((la.size : Int) + ty.size) 5 W (by omega) (by omega))
  have HT := Lib.hid (fun W => letters_any ty 6 W hty (by omega) (by omega))
  have hz1 : (w.alloc (.cells #[.int .i64 k, .string s, .string la, .string ty] 40 (0, 0))).heap.size = w.heap.size + 1 := by simp
  have hz2 : ((w.alloc (.cells #[.int .i64 k, .string s, .string la, .string ty] 40 (0, 0))).alloc zero4).heap.size = w.heap.size + 1 + 1 := by simp
  have hA := (Blk4.new (w.alloc (.cells #[.int .i64 k, .string s, .string la, .string ty] 40 (0, 0))) (.int .i64 0) (.string ⟨#[]⟩) (.string ⟨#[]⟩) (.string ⟨#[]⟩)).alloc (.cells #[.int .i64 3, .string (s.extract 0 (min (s.size : Int) 60).toNat), .string ⟨#[]⟩, .string ⟨#[]⟩] 40 (0, 0))
  have hB := Blk4.new ((w.alloc (.cells #[.int .i64 k, .string s, .string la, .string ty] 40 (0, 0))).alloc zero4) (.int .i64 3) (.string (s.extract 0 (min (s.size : Int) 60).toNat)) (.string ⟨#[]⟩) (.string ⟨#[]⟩)
  rw [hz1] at hA
  rw [hz2] at hB
  have HA := Lib.hid hA
  have HB := Lib.hid hB
  clear hA hB
  rw [hm] at HW2
  clear hm
  rcases hk with hk | hk <;> rw [hk] at HW <;> clear hk
  all_goals
    go_enter Tryd.func66, Tryd.ntmps66
    go_wp2_with (first | ((with_reducible refine (HW.out _).mono ?_); rintro e w' ⟨rfl, rfl⟩) | ((with_reducible refine (HW2.out _).mono ?_); rintro e w' ⟨rfl, rfl⟩))
    refine (HT.out _).mono ?_
    rintro e w1 ⟨o, rfl, ho, hoz, hb1⟩
    have hb : Blk4 w1 (w.heap.size + 1) (.int .i64 0) (.string ⟨#[]⟩) (.string ⟨#[]⟩) (.string ⟨#[]⟩) := by
      unfold Blk4
      rw [hb1.block _ (by simp)]
      exact HA.out
    have hd : Blk4 w1 (w.heap.size + 1 + 1) (.int .i64 3) (.string (s.extract 0 (min (s.size : Int) 60).toNat)) (.string ⟨#[]⟩) (.string ⟨#[]⟩) := by
      unfold Blk4
      rw [hb1.block _ (by simp)]
      exact HB.out
    have e0 := hb.c0
    have e1 := hb.c1
    have e2 := hb.c2
    have e3 := hb.c3
    have ef := hb.free
    have d0 := hd.c0
    have d1 := hd.c1
    have d2 := hd.c2
    have d3 := hd.c3
    have df := hd.free
    have HB1 := Lib.hid hb1
    have hsum : 2 + o.size ≤ 9223372036854775807 := by omega
    clear hb1 hb hd
    go_wp2
    refine bodyPost_ret (v := T.val ⟨3, (s.extract 0 (min (s.size : Int) 60).toNat).data.toList, (⟨#[]⟩ : ByteArray).data.toList, ((⟨#[116, 58]⟩ : ByteArray) ++ o).data.toList⟩) (by rw [val_of]; simp [results, Tryd.results66, go_sem, e0, e1, e2, e3, ef, d0, d1, d2, d3, df]) rfl ?_
    refine ⟨_, fine_type o ho hoz _ (cut60 s), rfl, ?_⟩
    exact bel4 ((((((Below.refl _ w).alloc (Nat.le_refl _) _).alloc (by simp) _).alloc (by simp; omega) _).trans (HB1.out.mono (by simp; omega))).setCell (by show w.heap.size ≤ w.heap.size + 1 + 1; omega) _) (by omega) _ _ _ _
end Go.Proofs.YtpgoemlnjocmhaaDoor.Nt
