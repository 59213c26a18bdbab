/-
  A part of the proof of NtBlanks (whatever the input, the law returns true and the input reads as it did): a term, a line's end are read back. Conditions stand at each theorem.
-/
import Derived.Test.YtpgoemlnjocmhaaDoorNtC
namespace Go.Proofs.YtpgoemlnjocmhaaDoor.Nt
open Go.RowKit Go.Proofs.YtpgoemlnjocmhaaDoor.Lex
open Go.Proofs.YtpgoemlnjocmhaaDoorW.PrintWords hiding blk_lt blk_cell blk_frozen
set_option linter.unusedVariables false
set_option linter.unusedSimpArgs false

/-- From l a term is read, and r is left. -/
def Reads (l : Bs) (t : T) (r : Bs) : Prop := ∀ (g : Nat) (s : ByteArray) (m : Int) (w : World), Line w g s 0 → s.size ≤ 16000 → s.data.toList = l → 0 < g → w.cell? ⟨0, 0, none⟩ = some (.int .i64 m) →
  Calls Tryd.prog 70 #[.pointer (some ⟨g, 0, none⟩)] w fun e w' => e = .returned t.val ∧ Line w' g ⟨r.toArray⟩ 0 ∧ Mut g w w'
/-- The same of a literal, behind its first sign. -/
def ReadsLit (l : Bs) (t : T) (r : Bs) : Prop := ∀ (g : Nat) (s : ByteArray) (m : Int) (w : World), Line w g s 0 → s.size ≤ 16000 → s.data.toList = l → 0 < g → w.cell? ⟨0, 0, none⟩ = some (.int .i64 m) →
  Calls Tryd.prog 96 #[.pointer (some ⟨g, 0, none⟩)] w fun e w' => e = .returned t.val ∧ Line w' g ⟨r.toArray⟩ 0 ∧ Mut g w w'
theorem lit_lang' (q la r : Bs) (hla : ∀ c ∈ la, langB (c.toNat : Int) = true) (hr : Ends r) : ReadsLit (q.flatMap escL ++ 34 :: 64 :: (la ++ r)) ⟨3, q, la, []⟩ r :=
  fun g s m w h1 h2 h3 h4 h5 => lit_lang g q la r s w h1 h2 h3 hla hr
theorem lit_bare' (q r : Bs) (hr : Ends r) : ReadsLit (q.flatMap escL ++ 34 :: r) ⟨3, q, [], []⟩ r :=
  fun g s m w h1 h2 h3 h4 h5 => lit_bare g q r s w h1 h2 h3 hr
theorem lit_type' (q ty r : Bs) (hty : ∀ c ∈ ty, c ≠ 62) (hr : Ends r) : ReadsLit (q.flatMap escL ++ 34 :: 94 :: 94 :: 60 :: (ty ++ 62 :: r)) ⟨3, q, [], ty⟩ r :=
  fun g s m w h1 h2 h3 h4 h5 => lit_type g q ty r s w h1 h2 h3 hr hty h4 m h5
set_option maxHeartbeats 1600000 in
set_option maxRecDepth 100000 in
theorem reads_iri (bl a r : Bs) (hbl : ∀ c ∈ bl, blankB (c.toNat : Int) = true) (ha : ∀ c ∈ a, c ≠ 62) : Reads (bl ++ 60 :: (a ++ 62 :: r)) ⟨1, a, [], []⟩ r := by
  intro g s m w hS hsz hs h0 hm
  have hlt := hS.lt
  have hln := len_of hs
  simp at hln
  have HP := Lib.hid (past_ok g s bl (60 :: (a ++ 62 :: r)) 0 (w.alloc zero4) 72 blankB (hS.alloc zero4) hsz hs hbl (by rintro c l h; cases h; rfl) cf_blank blank_any)
  have HX := Lib.hid hm
  clear hS hs hm
  go_enter Tryd.func70, Tryd.ntmps70
  go_wp2_with fail
  refine HP.out.mono ?_
  rintro e w1 ⟨rfl, hl1, hm1⟩
  have hc1 := hl1.cell1
  have hw1 : w.heap.size < w1.heap.size := ((Blk4.new w (.int .i64 0) (.string ⟨#[]⟩) (.string ⟨#[]⟩) (.string ⟨#[]⟩)).mut hm1 (by omega)).lt
  have hb1 := (Blk4.new w (.int .i64 0) (.string ⟨#[]⟩) (.string ⟨#[]⟩) (.string ⟨#[]⟩)).mut hm1 (by omega)
  have HB1 := Lib.hid hb1
  have HM1 := Lib.hid ((((Mut.refl g w).alloc _).trans hm1))
  have HC1 := Lib.hid (take_true g ⟨(60 :: (a ++ 62 :: r)).toArray⟩ ⟨#[60]⟩ ⟨(a ++ 62 :: r).toArray⟩ 0 _ hl1 (by simp))
  clear hl1 hm1 hb1
  go_wp2_with fail
  refine HC1.out.mono ?_
  rintro e w2 ⟨rfl, hl2, hm2⟩
  have hb2 := HB1.out.mut hm2 (by omega)
  have HB2 := Lib.hid hb2
  have HM2 := Lib.hid (HM1.out.trans hm2)
  have HC2 := Lib.hid (reference_ok g ⟨(a ++ 62 :: r).toArray⟩ ⟨a.toArray⟩ ⟨r.toArray⟩ 0 m _ hl2 (by show (a ++ 62 :: r).toArray.size ≤ 16000; simp; omega) (max_mut HM2.out h0 hlt HX.out) (cut_at a r ha))
  clear hl2 hm2 hb2
  go_wp2_with fail
  refine HC2.out.mono ?_
  rintro e w3 ⟨rfl, hl3, hm3⟩
  have hb3 := HB2.out.mut hm3 (by omega)
  have HB3 := Lib.hid hb3
  have HM3 := Lib.hid (HM2.out.trans hm3)
  have e0 := hb3.c0
  have e1 := hb3.c1
  have e2 := hb3.c2
  have e3 := hb3.c3
  have ef := hb3.free
  have HL := Lib.hid hl3
  clear hl3 hm3 hb3
  go_wp2
  refine bodyPost_ret (v := T.val ⟨1, a, [], []⟩) (by simp [results, Tryd.results70, go_sem, e0, e1, e2, e3, ef, tval, T.val]) rfl ?_
  have hy : w.heap.size ≤ w.heap.size := Nat.le_refl _
  have hz1 : g ≠ w.heap.size := by omega
  exact ⟨rfl, (((HL.out.set2 hz1 _).set2 hz1 _).set2 hz1 _).set2 hz1 _, (((HM3.out.set2 hy _).set2 hy _).set2 hy _).set2 hy _⟩
set_option maxHeartbeats 1600000 in
set_option maxRecDepth 100000 in
theorem reads_blank (bl a r : Bs) (hbl : ∀ c ∈ bl, blankB (c.toNat : Int) = true) (ha : ∀ c ∈ a, nameC (c.toNat : Int) = true) (hr : Ends r) : Reads (bl ++ 95 :: 58 :: (a ++ r)) ⟨2, a, [], []⟩ r := by
  intro g s m w hS hsz hs h0 hm
  have hlt := hS.lt
  have hln := len_of hs
  simp at hln
  have HP := Lib.hid (past_ok g s bl (95 :: 58 :: (a ++ r)) 0 (w.alloc zero4) 72 blankB (hS.alloc zero4) hsz hs hbl (by rintro c l h; cases h; rfl) cf_blank blank_any)
  have HX := Lib.hid hm
  clear hS hs hm
  go_enter Tryd.func70, Tryd.ntmps70
  go_wp2_with fail
  refine HP.out.mono ?_
  rintro e w1 ⟨rfl, hl1, hm1⟩
  have hc1 := hl1.cell1
  have hw1 : w.heap.size < w1.heap.size := ((Blk4.new w (.int .i64 0) (.string ⟨#[]⟩) (.string ⟨#[]⟩) (.string ⟨#[]⟩)).mut hm1 (by omega)).lt
  have hb1 := (Blk4.new w (.int .i64 0) (.string ⟨#[]⟩) (.string ⟨#[]⟩) (.string ⟨#[]⟩)).mut hm1 (by omega)
  have HB1 := Lib.hid hb1
  have HM1 := Lib.hid ((((Mut.refl g w).alloc _).trans hm1))
  have HC1 := Lib.hid (take_false g ⟨(95 :: 58 :: (a ++ r)).toArray⟩ ⟨#[60]⟩ 0 _ hl1 (by simp [Lib.hasPrefix, List.isPrefixOf]))
  clear hl1 hm1 hb1
  go_wp2_with fail
  refine HC1.out.mono ?_
  rintro e w2 ⟨rfl, hl2, hm2⟩
  have hb2 := HB1.out.mut hm2 (by omega)
  have HB2 := Lib.hid hb2
  have HM2 := Lib.hid (HM1.out.trans hm2)
  have HC2 := Lib.hid (take_true g ⟨(95 :: 58 :: (a ++ r)).toArray⟩ ⟨#[95, 58]⟩ ⟨(a ++ r).toArray⟩ 0 _ hl2 (by simp))
  clear hl2 hm2 hb2
  go_wp2_with fail
  refine HC2.out.mono ?_
  rintro e w3 ⟨rfl, hl3, hm3⟩
  have hb3 := HB2.out.mut hm3 (by omega)
  have HB3 := Lib.hid hb3
  have HM3 := Lib.hid (HM2.out.trans hm3)
  have HC3 := Lib.hid (past_ok g ⟨(a ++ r).toArray⟩ a r 0 _ 95 nameC hl3 (by show (a ++ r).toArray.size ≤ 16000; simp; omega) rfl ha (hr.sign nameC rfl rfl rfl) cf_name name_any)
  clear hl3 hm3 hb3
  go_wp2_with fail
  refine HC3.out.mono ?_
  rintro e w4 ⟨rfl, hl4, hm4⟩
  have hb4 := HB3.out.mut hm4 (by omega)
  have HB4 := Lib.hid hb4
  have HM4 := Lib.hid (HM3.out.trans hm4)
  have e0 := hb4.c0
  have e1 := hb4.c1
  have e2 := hb4.c2
  have e3 := hb4.c3
  have ef := hb4.free
  have HL := Lib.hid hl4
  clear hl4 hm4 hb4
  go_wp2
  refine bodyPost_ret (v := T.val ⟨2, a, [], []⟩) (by simp [results, Tryd.results70, go_sem, e0, e1, e2, e3, ef, tval, T.val]) rfl ?_
  have hy : w.heap.size ≤ w.heap.size := Nat.le_refl _
  have hz1 : g ≠ w.heap.size := by omega
  exact ⟨rfl, (((HL.out.set2 hz1 _).set2 hz1 _).set2 hz1 _).set2 hz1 _, (((HM4.out.set2 hy _).set2 hy _).set2 hy _).set2 hy _⟩
set_option maxHeartbeats 1600000 in
set_option maxRecDepth 100000 in
theorem reads_lit (bl l r : Bs) (tk : Int) (ts tl tt : Bs) (hbl : ∀ c ∈ bl, blankB (c.toNat : Int) = true) (hl : ReadsLit l ⟨tk, ts, tl, tt⟩ r) : Reads (bl ++ 34 :: l) ⟨tk, ts, tl, tt⟩ r := by
  intro g s m w hS hsz hs h0 hm
  have hlt := hS.lt
  have hln := len_of hs
  have HRL := Lib.hid hl
  clear hl
  simp at hln
  have HLN := Lib.hid hln
  clear hln
  have HP := Lib.hid (past_ok g s bl (34 :: l) 0 (w.alloc zero4) 72 blankB (hS.alloc zero4) hsz hs hbl (by rintro c l h; cases h; rfl) cf_blank blank_any)
  have HX := Lib.hid hm
  clear hS hs hm
  go_enter Tryd.func70, Tryd.ntmps70
  go_wp2_with fail
  refine HP.out.mono ?_
  rintro e w1 ⟨rfl, hl1, hm1⟩
  have hc1 := hl1.cell1
  have hw1 : w.heap.size < w1.heap.size := ((Blk4.new w (.int .i64 0) (.string ⟨#[]⟩) (.string ⟨#[]⟩) (.string ⟨#[]⟩)).mut hm1 (by omega)).lt
  have hb1 := (Blk4.new w (.int .i64 0) (.string ⟨#[]⟩) (.string ⟨#[]⟩) (.string ⟨#[]⟩)).mut hm1 (by omega)
  have HB1 := Lib.hid hb1
  have HM1 := Lib.hid ((((Mut.refl g w).alloc _).trans hm1))
  have HC1 := Lib.hid (take_false g ⟨(34 :: l).toArray⟩ ⟨#[60]⟩ 0 _ hl1 (by simp [Lib.hasPrefix, List.isPrefixOf]))
  clear hl1 hm1 hb1
  go_wp2_with fail
  refine HC1.out.mono ?_
  rintro e w2 ⟨rfl, hl2, hm2⟩
  have hb2 := HB1.out.mut hm2 (by omega)
  have HB2 := Lib.hid hb2
  have HM2 := Lib.hid (HM1.out.trans hm2)
  have HC2 := Lib.hid (take_false g ⟨(34 :: l).toArray⟩ ⟨#[95, 58]⟩ 0 _ hl2 (by simp [Lib.hasPrefix, List.isPrefixOf]))
  clear hl2 hm2 hb2
  go_wp2_with fail
  refine HC2.out.mono ?_
  rintro e w3 ⟨rfl, hl3, hm3⟩
  have hb3 := HB2.out.mut hm3 (by omega)
  have HB3 := Lib.hid hb3
  have HM3 := Lib.hid (HM2.out.trans hm3)
  have HC3 := Lib.hid (take_true g ⟨(34 :: l).toArray⟩ ⟨#[34]⟩ ⟨(l).toArray⟩ 0 _ hl3 (by simp))
  clear hl3 hm3 hb3
  go_wp2_with fail
  refine HC3.out.mono ?_
  rintro e w4 ⟨rfl, hl4, hm4⟩
  have hb4 := HB3.out.mut hm4 (by omega)
  have HB4 := Lib.hid hb4
  have HM4 := Lib.hid (HM3.out.trans hm4)
  have HC4 := Lib.hid ((show Calls _ _ _ _ (fun e w' => e = .returned (.agg #[.int .i64 tk, .string ⟨ts.toArray⟩, .string ⟨tl.toArray⟩, .string ⟨tt.toArray⟩]) ∧ Line w' g ⟨r.toArray⟩ 0 ∧ Mut g w4 w') from HRL.out g ⟨l.toArray⟩ m _ hl4 (by have := HLN.out; show l.toArray.size ≤ 16000; simp; omega) rfl h0 (max_mut HM4.out h0 hlt HX.out)))
  clear hl4 hm4 hb4
  go_wp2_with fail
  refine HC4.out.mono ?_
  rintro e w5 ⟨rfl, hl5, hm5⟩
  have hb5 := HB4.out.mut hm5 (by omega)
  have HB5 := Lib.hid hb5
  have HM5 := Lib.hid (HM4.out.trans hm5)
  have e0 := hb5.c0
  have e1 := hb5.c1
  have e2 := hb5.c2
  have e3 := hb5.c3
  have ef := hb5.free
  have HL := Lib.hid hl5
  clear hl5 hm5 hb5
  go_wp2
  refine bodyPost_ret (v := T.val ⟨tk, ts, tl, tt⟩) (by simp [results, Tryd.results70, go_sem, e0, e1, e2, e3, ef, tval, T.val]) rfl ?_
  have hy : w.heap.size ≤ w.heap.size := Nat.le_refl _
  have hz1 : g ≠ w.heap.size := by omega
  exact ⟨rfl, (((HL.out.set2 hz1 _).set2 hz1 _).set2 hz1 _).set2 hz1 _, (((HM5.out.set2 hy _).set2 hy _).set2 hy _).set2 hy _⟩
set_option maxHeartbeats 1600000 in
set_option maxRecDepth 100000 in
/-- A word is no term. -/
theorem term_bad (g : Nat) (s : ByteArray) (w : World) (hS : Line w g s 0) (hsz : s.size ≤ 16000) (c : UInt8) (l : Bs) (hs : s.data.toList = c :: l) (hc : blankB (c.toNat : Int) = false ∧ c ≠ 60 ∧ c ≠ 95 ∧ c ≠ 34) :
    Calls Tryd.prog 70 #[.pointer (some ⟨g, 0, none⟩)] w fun e w' => e = .returned (tval 0 [] [] []) ∧ Line w' g s 6 ∧ Mut g w w' := by
  have hlt := hS.lt
  obtain rfl : s = ⟨(c :: l).toArray⟩ := by rw [← hs]
  have HP := Lib.hid (past_ok g ⟨(c :: l).toArray⟩ [] (c :: l) 0 (w.alloc zero4) 72 blankB (hS.alloc zero4) hsz hs (by intro c hc; cases hc) (by rintro c' l' h; cases h; exact hc.1) cf_blank blank_any)
  have n1 : (60 == c) = false := by simpa using Ne.symm hc.2.1
  have n2 : (95 == c) = false := by simpa using Ne.symm hc.2.2.1
  have n3 : (34 == c) = false := by simpa using Ne.symm hc.2.2.2
  clear hS hs
  go_enter Tryd.func70, Tryd.ntmps70
  go_wp2_with fail
  refine HP.out.mono ?_
  rintro e w1 ⟨rfl, hl1, hm1⟩
  have hc1 := hl1.cell1
  have hw1 : w.heap.size < w1.heap.size := ((Blk4.new w (.int .i64 0) (.string ⟨#[]⟩) (.string ⟨#[]⟩) (.string ⟨#[]⟩)).mut hm1 (by omega)).lt
  have hb1 := (Blk4.new w (.int .i64 0) (.string ⟨#[]⟩) (.string ⟨#[]⟩) (.string ⟨#[]⟩)).mut hm1 (by omega)
  have HB1 := Lib.hid hb1
  have HM1 := Lib.hid ((((Mut.refl g w).alloc _).trans hm1))
  have HC1 := Lib.hid (take_false g ⟨(c :: l).toArray⟩ ⟨#[60]⟩ 0 _ hl1 (by simp [Lib.hasPrefix, List.isPrefixOf, n1]))
  clear hl1 hm1 hb1
  go_wp2_with fail
  refine HC1.out.mono ?_
  rintro e w2 ⟨rfl, hl2, hm2⟩
  have hb2 := HB1.out.mut hm2 (by omega)
  have HB2 := Lib.hid hb2
  have HM2 := Lib.hid (HM1.out.trans hm2)
  have HC2 := Lib.hid (take_false g ⟨(c :: l).toArray⟩ ⟨#[95, 58]⟩ 0 _ hl2 (by simp [Lib.hasPrefix, List.isPrefixOf, n2]))
  clear hl2 hm2 hb2
  go_wp2_with fail
  refine HC2.out.mono ?_
  rintro e w3 ⟨rfl, hl3, hm3⟩
  have hb3 := HB2.out.mut hm3 (by omega)
  have HB3 := Lib.hid hb3
  have HM3 := Lib.hid (HM2.out.trans hm3)
  have HC3 := Lib.hid (take_false g ⟨(c :: l).toArray⟩ ⟨#[34]⟩ 0 _ hl3 (by simp [Lib.hasPrefix, List.isPrefixOf, n3]))
  clear hl3 hm3 hb3
  go_wp2_with fail
  refine HC3.out.mono ?_
  rintro e w4 ⟨rfl, hl4, hm4⟩
  have hb4 := HB3.out.mut hm4 (by omega)
  have HB4 := Lib.hid hb4
  have HM4 := Lib.hid (HM3.out.trans hm4)
  have HC4 := Lib.hid (fail_any g ⟨(c :: l).toArray⟩ 0 _ hl4)
  clear hl4 hm4 hb4
  go_wp2_with fail
  refine HC4.out.mono ?_
  rintro e w5 ⟨rfl, hl5, hm5⟩
  have hb5 := HB4.out.mut hm5 (by omega)
  have HB5 := Lib.hid hb5
  have HM5 := Lib.hid (HM4.out.trans hm5)
  have e0 := hb5.c0
  have e1 := hb5.c1
  have e2 := hb5.c2
  have e3 := hb5.c3
  have ef := hb5.free
  have HL := Lib.hid hl5
  clear hl5 hm5 hb5
  go_wp2
  refine bodyPost_ret (v := tval 0 [] [] []) (by simp [results, Tryd.results70, go_sem, e0, e1, e2, e3, ef, tval, T.val]) rfl ?_
  have hy : w.heap.size ≤ w.heap.size := Nat.le_refl _
  have hz1 : g ≠ w.heap.size := by omega
  exact ⟨rfl, (((HL.out.set2 hz1 _).set2 hz1 _).set2 hz1 _).set2 hz1 _, (((HM5.out.set2 hy _).set2 hy _).set2 hy _).set2 hy _⟩
set_option maxHeartbeats 1600000 in
set_option maxRecDepth 100000 in
/-- Behind a fault nothing is read. -/
theorem term_skip (g : Nat) (s : ByteArray) (w : World) (hS : Line w g s 6) (hsz : s.size ≤ 16000) :
    Calls Tryd.prog 70 #[.pointer (some ⟨g, 0, none⟩)] w fun e w' => e = .returned (tval 0 [] [] []) ∧ (∃ s', Line w' g s' 6 ∧ s'.size ≤ 16000) ∧ Mut g w w' := by
  have hlt := hS.lt
  have HP := Lib.hid (past_any g s 6 (w.alloc zero4) 72 blankB (hS.alloc zero4) hsz cf_blank blank_any)
  generalize cnt blankB s 0 = n at *
  clear hS
  go_enter Tryd.func70, Tryd.ntmps70
  go_wp2_with fail
  refine HP.out.mono ?_
  rintro e w1 ⟨rfl, hl1, hm1⟩
  have hc1 := hl1.cell1
  have hw1 : w.heap.size < w1.heap.size := ((Blk4.new w (.int .i64 0) (.string ⟨#[]⟩) (.string ⟨#[]⟩) (.string ⟨#[]⟩)).mut hm1 (by omega)).lt
  have hb1 := (Blk4.new w (.int .i64 0) (.string ⟨#[]⟩) (.string ⟨#[]⟩) (.string ⟨#[]⟩)).mut hm1 (by omega)
  have HM1 := Lib.hid ((((Mut.refl g w).alloc _).trans hm1))
  have e0 := hb1.c0
  have e1 := hb1.c1
  have e2 := hb1.c2
  have e3 := hb1.c3
  have ef := hb1.free
  have HL := Lib.hid hl1
  clear hl1 hm1 hb1
  go_wp2
  refine bodyPost_ret (v := tval 0 [] [] []) (by simp [results, Tryd.results70, go_sem, e0, e1, e2, e3, ef, tval, T.val]) rfl ?_
  have hy : w.heap.size ≤ w.heap.size := Nat.le_refl _
  have hz1 : g ≠ w.heap.size := by omega
  exact ⟨rfl, ⟨_, (((HL.out.set2 hz1 _).set2 hz1 _).set2 hz1 _).set2 hz1 _, by simp; omega⟩, (((HM1.out.set2 hy _).set2 hy _).set2 hy _).set2 hy _⟩
set_option maxHeartbeats 1600000 in
set_option maxRecDepth 100000 in
/-- Is a line at its end? -/
theorem end_ok (g : Nat) (s : ByteArray) (w : World) (hS : Line w g s 0) (hsz : s.size ≤ 16000) (bl r : Bs) (hs : s.data.toList = bl ++ r) (hbl : ∀ c ∈ bl, blankB (c.toNat : Int) = true) (hr : ∀ c l, r = c :: l → blankB (c.toNat : Int) = false) :
    Calls Tryd.prog 69 #[.pointer (some ⟨g, 0, none⟩)] w fun e w' => e = .returned (.bool (r.isEmpty || r.head? == some 35)) ∧ Line w' g ⟨r.toArray⟩ 0 ∧ Mut g w w' := by
  have HP := Lib.hid (past_ok g s bl r 0 w 72 blankB hS hsz hs hbl hr cf_blank blank_any)
  clear hS hs hr hbl
  rcases r with _ | ⟨c, l⟩
  · have b0 : (⟨#[]⟩ : ByteArray).toList.isEmpty = true := by rw [Lib.toList_data]; rfl
    go_enter Tryd.func69, Tryd.ntmps69
    go_wp2_with fail
    refine HP.out.mono ?_
    rintro e w1 ⟨rfl, hl1, hm1⟩
    have hc0 := hl1.cell
    have HL := Lib.hid hl1
    have HM := Lib.hid hm1
    clear hl1 hm1
    go_wp2
    go_ret
    exact ⟨rfl, HL.out, HM.out⟩
  · obtain ⟨t, ht⟩ : ∃ t : ByteArray, t = ⟨(c :: l).toArray⟩ := ⟨_, rfl⟩
    have htl : t.data.toList = c :: l := by rw [ht]
    rw [← ht] at HP ⊢
    have f1 := first_byte htl
    have b0 : t.toList.isEmpty = false := by rw [Lib.toList_data, htl]; rfl
    obtain ⟨ci, hci⟩ : ∃ i : Int, i = c.toNat := ⟨_, rfl⟩
    have hpos := f1.1
    have hx0 : ∀ h : 0 < t.size, ((t[0]'h).toNat : Int) = ci := by rw [hci]; exact f1.2.1
    have HCI := Lib.hid hci
    clear hci f1 htl ht
    by_cases e35 : ci = 35
    · subst e35
      go_enter Tryd.func69, Tryd.ntmps69
      go_wp2_with fail
      refine HP.out.mono ?_
      rintro e w1 ⟨rfl, hl1, hm1⟩
      have hc0 := hl1.cell
      have HL := Lib.hid hl1
      have HM := Lib.hid hm1
      clear hl1 hm1
      go_wp2
      go_ret
      have hc : c = 35 := UInt8.toNat_inj.1 (by have := HCI.out; show c.toNat = 35; omega)
      exact ⟨by subst hc; rfl, HL.out, HM.out⟩
    · have b1 : (ci == 35) = false := by simpa using e35
      go_enter Tryd.func69, Tryd.ntmps69
      go_wp2_with fail
      refine HP.out.mono ?_
      rintro e w1 ⟨rfl, hl1, hm1⟩
      have hc0 := hl1.cell
      have HL := Lib.hid hl1
      have HM := Lib.hid hm1
      clear hl1 hm1
      go_wp2
      go_ret
      have hc : c ≠ 35 := fun h => e35 (by rw [HCI.out, h]; rfl)
      exact ⟨by simp [hc], HL.out, HM.out⟩
end Go.Proofs.YtpgoemlnjocmhaaDoor.Nt
