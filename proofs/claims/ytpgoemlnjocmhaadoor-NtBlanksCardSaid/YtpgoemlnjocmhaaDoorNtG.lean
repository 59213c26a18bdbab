/-
  A part of the proof of NtBlanks (whatever the input, the law returns true and the input reads as it did): a line's triple is read back. Conditions stand at each theorem.
-/
import Derived.Test.YtpgoemlnjocmhaaDoorNtF
import Derived.BigQuiet
namespace Go.Proofs.YtpgoemlnjocmhaaDoor.Nt
open Go.RowKit Go.Proofs.YtpgoemlnjocmhaaDoor.Lex
open Go.Proofs.YtpgoemlnjocmhaaDoorW.PrintWords hiding blk_lt blk_cell blk_frozen
set_option linter.unusedVariables false
set_option linter.unusedSimpArgs false

/-- A block that holds a triple. -/
def Blk12 (W : World) (n : Nat) (cs : Array Value) : Prop := W.heap[n]? = some (.cells cs 42 (0, 0))
theorem Blk12.cell {W : World} {n : Nat} {cs : Array Value} (h : Blk12 W n cs) (j : Nat) (v : Value) (hv : cs[j]? = some v) : W.cell? ⟨n, j, none⟩ = some v := by rw [blk_cell h j]; exact hv
theorem Blk12.free {W : World} {n : Nat} {cs : Array Value} (h : Blk12 W n cs) (j : Nat) : W.frozen? ⟨n, j, none⟩ = false := blk_frozen h j
theorem Blk12.mut {W W' : World} {n g : Nat} {cs : Array Value} (h : Blk12 W n cs) (hm : Mut g W W') (hn : n ≠ g) : Blk12 W' n cs := hm.blk h hn
theorem Blk12.new (W : World) (cs : Array Value) : Blk12 (W.alloc (.cells cs 42 (0, 0))) W.heap.size cs := by
  unfold Blk12; show (W.heap.push _)[W.heap.size]? = some _; simp
theorem Blk12.alloc {W : World} {n : Nat} {cs : Array Value} (h : Blk12 W n cs) (o : Obj) : Blk12 (W.alloc o) n cs := by
  unfold Blk12; rw [Below.heap_alloc _ _ _ (blk_lt h)]; exact h
theorem Blk12.lt {W : World} {n : Nat} {cs : Array Value} (h : Blk12 W n cs) : n < W.heap.size := blk_lt h
theorem Blk12.set {W : World} {n : Nat} {cs : Array Value} (h : Blk12 W n cs) {p : Addr} (hp : n ≠ p.block) (u : Value) : Blk12 (W.setCell p u) n cs := by
  unfold Blk12; rw [Below.heap_setCell _ _ _ _ hp]; exact h
def zero12 : Value := .agg zs

set_option maxHeartbeats 1600000 in
set_option maxRecDepth 100000 in
/-- A line that has no triple. -/
theorem triple_none (g : Nat) (s : ByteArray) (w : World) (hS : Line w g s 0) (hsz : s.size ≤ 16000) (bl r : Bs) (hs : s.data.toList = bl ++ r) (hbl : ∀ c ∈ bl, blankB (c.toNat : Int) = true) (hr : r = [] ∨ ∃ l, r = 35 :: l) :
    Calls Tryd.prog 37 #[.pointer (some ⟨g, 0, none⟩)] w fun e w' => e = .returned (.tuple #[zero12, .bool false]) ∧ (∃ s', Line w' g s' 0) ∧ Mut g w w' := by
  have hlt := hS.lt
  have hE := end_ok g s (w.alloc (.cells zs 42 (0, 0))) (hS.alloc _) hsz bl r hs hbl (by rintro c l rfl; rcases hr with h | ⟨l', h⟩ <;> cases h; rfl)
  have hb : (r.isEmpty || r.head? == some 35) = true := by rcases hr with rfl | ⟨l, rfl⟩ <;> rfl
  rw [hb] at hE
  have HE := Lib.hid hE
  clear hE hS hs hr hb
  go_enter Tryd.func37, Tryd.ntmps37
  go_wp2_with fail
  refine HE.out.mono ?_
  rintro e w1 ⟨rfl, hl1, hm1⟩
  have hb1 := (Blk12.new w zs).mut hm1 (by omega)
  have d0 := hb1.cell 0 (.int .i64 0) rfl
  have d1 := hb1.cell 1 (.string ⟨#[]⟩) rfl
  have d2 := hb1.cell 2 (.string ⟨#[]⟩) rfl
  have d3 := hb1.cell 3 (.string ⟨#[]⟩) rfl
  have d4 := hb1.cell 4 (.int .i64 0) rfl
  have d5 := hb1.cell 5 (.string ⟨#[]⟩) rfl
  have d6 := hb1.cell 6 (.string ⟨#[]⟩) rfl
  have d7 := hb1.cell 7 (.string ⟨#[]⟩) rfl
  have d8 := hb1.cell 8 (.int .i64 0) rfl
  have d9 := hb1.cell 9 (.string ⟨#[]⟩) rfl
  have d10 := hb1.cell 10 (.string ⟨#[]⟩) rfl
  have d11 := hb1.cell 11 (.string ⟨#[]⟩) rfl
  have df := hb1.free
  have HL := Lib.hid hl1
  have HM := Lib.hid (((Mut.refl g w).alloc _).trans hm1)
  clear hl1 hm1 hb1
  go_wp2
  refine bodyPost_ret (v := .tuple #[zero12, .bool false]) (by simp [results, Tryd.results37, go_sem, zero12, zs, d0, d1, d2, d3, d4, d5, d6, d7, d8, d9, d10, d11, df]) rfl ?_
  have hy : w.heap.size ≤ w.heap.size := Nat.le_refl _
  have hz1 : g ≠ w.heap.size := by omega
  exact ⟨rfl, ⟨_, ((((((((((((HL.out.set2 hz1 _).set2 hz1 _).set2 hz1 _).set2 hz1 _).set2 hz1 _).set2 hz1 _).set2 hz1 _).set2 hz1 _).set2 hz1 _).set2 hz1 _).set2 hz1 _).set2 hz1 _)⟩, ((((((((((((HM.out.set2 hy _).set2 hy _).set2 hy _).set2 hy _).set2 hy _).set2 hy _).set2 hy _).set2 hy _).set2 hy _).set2 hy _).set2 hy _).set2 hy _)⟩
set_option maxHeartbeats 4000000 in
set_option maxRecDepth 100000 in
/-- A line that has a triple. -/
theorem triple_ok (g : Nat) (s : ByteArray) (m : Int) (w : World) (hS : Line w g s 0) (hsz : s.size ≤ 16000) (h0 : 0 < g) (hm : w.cell? ⟨0, 0, none⟩ = some (.int .i64 m)) (bl l1 r1 r2 r3 bl2 r4 bl3 r5 : Bs) (a b c : T)
    (hs : s.data.toList = bl ++ l1) (hbl : ∀ c ∈ bl, blankB (c.toNat : Int) = true) (hl1 : ∃ c l, l1 = c :: l ∧ blankB (c.toNat : Int) = false ∧ c ≠ 35)
    (ra : Reads l1 a r1) (rb : Reads r1 b r2) (rc : Reads r2 c r3) (z1 : r1.length ≤ 16000) (z2 : r2.length ≤ 16000) (z3 : r3.length ≤ 16000)
    (h3 : r3 = bl2 ++ 46 :: r4) (hbl2 : ∀ c ∈ bl2, blankB (c.toNat : Int) = true) (h4 : r4 = bl3 ++ r5) (hbl3 : ∀ c ∈ bl3, blankB (c.toNat : Int) = true) (h5 : r5 = [] ∨ ∃ l, r5 = 35 :: l)
    (fa : a.fine) (fb : b.fine) (fc : c.fine) (ka : a.k ≠ 3) (kb : b.k = 1) :
    Calls Tryd.prog 37 #[.pointer (some ⟨g, 0, none⟩)] w fun e w' => e = .returned (.tuple #[tri a b c, .bool true]) ∧ (∃ s', Line w' g s' 0) ∧ Mut g w w' := by
  have hlt := hS.lt
  have hE := end_ok g s (w.alloc (.cells zs 42 (0, 0))) (hS.alloc _) hsz bl l1 hs hbl (by rintro c l rfl; obtain ⟨c', l', h, h1, h2⟩ := hl1; cases h; exact h1)
  have hb : (l1.isEmpty || l1.head? == some 35) = false := by obtain ⟨c', l', rfl, h1, h2⟩ := hl1; simp [h2]
  rw [hb] at hE
  have hln := len_of hs
  simp at hln
  have z0 : l1.length ≤ 16000 := by omega
  have HE := Lib.hid hE
  have HRA := Lib.hid ra
  have HRB := Lib.hid rb
  have HRC := Lib.hid rc
  have H3 := Lib.hid h3
  have H4 := Lib.hid h4
  have H5 := Lib.hid h5
  have HX := Lib.hid hm
  have HF := Lib.hid (fun W => fits_ok a b c W fa fb fc ka kb)
  have HBL2 := Lib.hid hbl2
  have HBL3 := Lib.hid hbl3
  rcases a with ⟨ak, sa, la, ta⟩
  rcases b with ⟨bk, sb, lb, tb⟩
  rcases c with ⟨ck, sc, lc, tc⟩
  clear hE hS hs hl1 hb ra rb rc h3 h4 h5 hm fa fb fc ka kb hbl hbl2 hbl3 hln
  go_enter Tryd.func37, Tryd.ntmps37
  go_wp2_with fail
  refine HE.out.mono ?_
  rintro e w1 ⟨rfl, hl1, hm1⟩
  have HM1 := Lib.hid (((Mut.refl g w).alloc _).trans hm1)
  have HB1 := Lib.hid ((Blk12.new w zs).mut hm1 (by omega))
  have HC1 := Lib.hid ((show Calls _ _ _ _ (fun e w' => e = .returned (.agg #[.int .i64 ak, .string ⟨sa.toArray⟩, .string ⟨la.toArray⟩, .string ⟨ta.toArray⟩]) ∧ Line w' g ⟨r1.toArray⟩ 0 ∧ Mut g w1 w') from HRA.out g ⟨l1.toArray⟩ m _ hl1 (by rw [size_of]; exact z0) rfl h0 (max_mut HM1.out h0 hlt HX.out)))
  clear hl1 hm1
  go_wp2_with fail
  refine HC1.out.mono ?_
  rintro e w2 ⟨rfl, hl2, hm2⟩
  have HM2 := Lib.hid (HM1.out.trans hm2)
  have HB2 := Lib.hid (HB1.out.mut hm2 (by omega))
  have HC2 := Lib.hid ((show Calls _ _ _ _ (fun e w' => e = .returned (.agg #[.int .i64 bk, .string ⟨sb.toArray⟩, .string ⟨lb.toArray⟩, .string ⟨tb.toArray⟩]) ∧ Line w' g ⟨r2.toArray⟩ 0 ∧ Mut g w2 w') from HRB.out g ⟨r1.toArray⟩ m _ hl2 (by rw [size_of]; exact z1) rfl h0 (max_mut HM2.out h0 hlt HX.out)))
  clear hl2 hm2
  go_wp2_with fail
  refine HC2.out.mono ?_
  rintro e w3 ⟨rfl, hl3, hm3⟩
  have HM3 := Lib.hid (HM2.out.trans hm3)
  have HB3 := Lib.hid (HB2.out.mut hm3 (by omega))
  have HC3 := Lib.hid ((show Calls _ _ _ _ (fun e w' => e = .returned (.agg #[.int .i64 ck, .string ⟨sc.toArray⟩, .string ⟨lc.toArray⟩, .string ⟨tc.toArray⟩]) ∧ Line w' g ⟨r3.toArray⟩ 0 ∧ Mut g w3 w') from HRC.out g ⟨r2.toArray⟩ m _ hl3 (by rw [size_of]; exact z2) rfl h0 (max_mut HM3.out h0 hlt HX.out)))
  clear hl3 hm3
  go_wp2_with fail
  refine HC3.out.mono ?_
  rintro e w4 ⟨rfl, hl4, hm4⟩
  have HM4 := Lib.hid (HM3.out.trans hm4)
  have HB4 := Lib.hid (HB3.out.mut hm4 (by omega))
  have hk4 : w.heap.size < w4.heap.size := HB4.out.lt
  have hg4 := hl4.lt
  have hHL := hl4.alloc (.cells (triC ⟨ak, sa, la, ta⟩ ⟨bk, sb, lb, tb⟩ ⟨ck, sc, lc, tc⟩) 42 (0, 0))
  have HC4 := Lib.hid (past_ok g ⟨r3.toArray⟩ bl2 (46 :: r4) 0 _ 72 blankB hHL (by rw [size_of]; exact z3) H3.out HBL2.out (by rintro c l h; cases h; rfl) cf_blank blank_any)
  clear hl4 hm4 hHL
  go_wp2_with fail
  refine HC4.out.mono ?_
  rintro e w5 ⟨rfl, hl5, hm5⟩
  have HM5 := Lib.hid ((HM4.out.alloc _).trans hm5)
  have HB5 := Lib.hid ((HB4.out.alloc _).mut hm5 (by omega))
  have HD5 := Lib.hid ((Blk12.new w4 (triC ⟨ak, sa, la, ta⟩ ⟨bk, sb, lb, tb⟩ ⟨ck, sc, lc, tc⟩)).mut hm5 (by omega))
  have hc5 := hl5.cell1
  have z4 : r4.length ≤ 16000 := by have := congrArg List.length H3.out; simp at this; omega
  have HC5 := Lib.hid (take_true g ⟨(46 :: r4).toArray⟩ ⟨#[46]⟩ ⟨r4.toArray⟩ 0 _ hl5 (by simp))
  clear hl5 hm5
  go_wp2_with fail
  refine HC5.out.mono ?_
  rintro e w6 ⟨rfl, hl6, hm6⟩
  have HM6 := Lib.hid (HM5.out.trans hm6)
  have HB6 := Lib.hid (HB5.out.mut hm6 (by omega))
  have HD6 := Lib.hid (HD5.out.mut hm6 (by omega))
  have hc6 := hl6.cell1
  have hb : (r5.isEmpty || r5.head? == some 35) = true := by rcases H5.out with rfl | ⟨l, rfl⟩ <;> rfl
  have hE6 := end_ok g ⟨r4.toArray⟩ w6 hl6 (by rw [size_of]; exact z4) bl3 r5 H4.out HBL3.out (by rintro c l rfl; rcases H5.out with h | ⟨l', h⟩ <;> cases h; rfl)
  rw [hb] at hE6
  have HC6 := Lib.hid (hE6)
  clear hl6 hm6 hE6 hb
  go_wp2_with fail
  refine HC6.out.mono ?_
  rintro e w7 ⟨rfl, hl7, hm7⟩
  have HM7 := Lib.hid (HM6.out.trans hm7)
  have HB7 := Lib.hid (HB6.out.mut hm7 (by omega))
  have HD7 := Lib.hid (HD6.out.mut hm7 (by omega))
  have hc7 := hl7.cell1
  have d0 := HD7.out.cell 0 (.int .i64 ak) rfl
  have d1 := HD7.out.cell 1 (.string ⟨sa.toArray⟩) rfl
  have d2 := HD7.out.cell 2 (.string ⟨la.toArray⟩) rfl
  have d3 := HD7.out.cell 3 (.string ⟨ta.toArray⟩) rfl
  have d4 := HD7.out.cell 4 (.int .i64 bk) rfl
  have d5 := HD7.out.cell 5 (.string ⟨sb.toArray⟩) rfl
  have d6 := HD7.out.cell 6 (.string ⟨lb.toArray⟩) rfl
  have d7 := HD7.out.cell 7 (.string ⟨tb.toArray⟩) rfl
  have d8 := HD7.out.cell 8 (.int .i64 ck) rfl
  have d9 := HD7.out.cell 9 (.string ⟨sc.toArray⟩) rfl
  have d10 := HD7.out.cell 10 (.string ⟨lc.toArray⟩) rfl
  have d11 := HD7.out.cell 11 (.string ⟨tc.toArray⟩) rfl
  have df := HD7.out.free
  have hf7 := hl7.free 1
  have HL7 := Lib.hid hl7
  clear hl7 hm7
  go_wp2_with fail
  refine (HF.out _).mono ?_
  rintro e w8 ⟨rfl, hb8⟩
  have hl8 := HL7.out.below hb8
  have HM8 := Lib.hid (HM7.out.step hb8)
  have HB8 := Lib.hid (HB7.out.mut (Mut.of_below (g := g) hb8) (by omega))
  have HD8 := Lib.hid (HD7.out.mut (Mut.of_below (g := g) hb8) (by omega))
  clear d0 d1 d2 d3 d4 d5 d6 d7 d8 d9 d10 d11 df
  have d0 := HD8.out.cell 0 (.int .i64 ak) rfl
  have d1 := HD8.out.cell 1 (.string ⟨sa.toArray⟩) rfl
  have d2 := HD8.out.cell 2 (.string ⟨la.toArray⟩) rfl
  have d3 := HD8.out.cell 3 (.string ⟨ta.toArray⟩) rfl
  have d4 := HD8.out.cell 4 (.int .i64 bk) rfl
  have d5 := HD8.out.cell 5 (.string ⟨sb.toArray⟩) rfl
  have d6 := HD8.out.cell 6 (.string ⟨lb.toArray⟩) rfl
  have d7 := HD8.out.cell 7 (.string ⟨tb.toArray⟩) rfl
  have d8 := HD8.out.cell 8 (.int .i64 ck) rfl
  have d9 := HD8.out.cell 9 (.string ⟨sc.toArray⟩) rfl
  have d10 := HD8.out.cell 10 (.string ⟨lc.toArray⟩) rfl
  have d11 := HD8.out.cell 11 (.string ⟨tc.toArray⟩) rfl
  have df := HD8.out.free
  have e0 := HB8.out.cell 0 (.int .i64 0) rfl
  have e1 := HB8.out.cell 1 (.string ⟨#[]⟩) rfl
  have e2 := HB8.out.cell 2 (.string ⟨#[]⟩) rfl
  have e3 := HB8.out.cell 3 (.string ⟨#[]⟩) rfl
  have e4 := HB8.out.cell 4 (.int .i64 0) rfl
  have e5 := HB8.out.cell 5 (.string ⟨#[]⟩) rfl
  have e6 := HB8.out.cell 6 (.string ⟨#[]⟩) rfl
  have e7 := HB8.out.cell 7 (.string ⟨#[]⟩) rfl
  have e8 := HB8.out.cell 8 (.int .i64 0) rfl
  have e9 := HB8.out.cell 9 (.string ⟨#[]⟩) rfl
  have e10 := HB8.out.cell 10 (.string ⟨#[]⟩) rfl
  have e11 := HB8.out.cell 11 (.string ⟨#[]⟩) rfl
  have ef := HB8.out.free
  have hc8 := hl8.cell1
  have hf8 := hl8.free 1
  have hc9 := (hl8.set1 0).cell1
  have hne1 : w.heap.size ≠ w4.heap.size := by omega
  have hne2 : w4.heap.size ≠ w.heap.size := by omega
  have hne3 : g ≠ w.heap.size := by omega
  have hne4 : g ≠ w4.heap.size := by omega
  have HL8 := Lib.hid (hl8.set1 0)
  clear hl8 hb8
  go_wp2
  go_region
  go_wp2
  refine bodyPost_ret (v := .tuple #[tri ⟨ak, sa, la, ta⟩ ⟨bk, sb, lb, tb⟩ ⟨ck, sc, lc, tc⟩, .bool true]) (by simp [results, Tryd.results37, go_sem, tri, zs, hne1, hne2, d0, e0, d1, e1, d2, e2, d3, e3, d4, e4, d5, e5, d6, e6, d7, e7, d8, e8, d9, e9, d10, e10, d11, e11, df, ef]) rfl ?_
  have hy : w.heap.size ≤ w.heap.size := Nat.le_refl _
  refine ⟨rfl, ⟨⟨r5.toArray⟩, ?_⟩, ?_⟩
  · refine Line.below (W := _) ?_ (Below.drew (Below.refl _ _))
    exact ((((((((((((HL8.out.set2 hne3 _).set2 hne3 _).set2 hne3 _).set2 hne3 _).set2 hne3 _).set2 hne3 _).set2 hne3 _).set2 hne3 _).set2 hne3 _).set2 hne3 _).set2 hne3 _).set2 hne3 _)
  · refine Mut.step (w := _) ?_ (Below.drew (Below.refl _ _))
    exact (((((((((((((HM8.out.set 1 _).set2 hy _).set2 hy _).set2 hy _).set2 hy _).set2 hy _).set2 hy _).set2 hy _).set2 hy _).set2 hy _).set2 hy _).set2 hy _).set2 hy _)
set_option maxHeartbeats 4000000 in
set_option maxRecDepth 100000 in
/-- A line that is a word. -/
theorem triple_bad (g : Nat) (s : ByteArray) (w : World) (hS : Line w g s 0) (hsz : s.size ≤ 16000) (c : UInt8) (l : Bs) (hs : s.data.toList = c :: l) (hc : blankB (c.toNat : Int) = false ∧ c ≠ 60 ∧ c ≠ 95 ∧ c ≠ 34) (h35 : c ≠ 35) :
    Calls Tryd.prog 37 #[.pointer (some ⟨g, 0, none⟩)] w fun e w' => e = .returned (.tuple #[.agg zs, .bool false]) ∧ (∃ s', Line w' g s' 6) ∧ Mut g w w' := by
  have hlt := hS.lt
  have hE := end_ok g s (w.alloc (.cells zs 42 (0, 0))) (hS.alloc _) hsz [] (c :: l) hs (by intro c hc; cases hc) (by rintro c' l' h; cases h; exact hc.1)
  have hb : ((c :: l).isEmpty || (c :: l).head? == some 35) = false := by simp [h35]
  rw [hb] at hE
  have hln := len_of hs
  have HE := Lib.hid hE
  have HC := Lib.hid hc
  have z0 : (c :: l).length ≤ 16000 := by omega
  clear hE hS hs hb hc hln
  go_enter Tryd.func37, Tryd.ntmps37
  go_wp2_with fail
  refine HE.out.mono ?_
  rintro e w1 ⟨rfl, hl1, hm1⟩
  have HM1 := Lib.hid (((Mut.refl g w).alloc _).trans hm1)
  have HB1 := Lib.hid ((Blk12.new w zs).mut hm1 (by omega))
  have HC1 := Lib.hid ((show Calls _ _ _ _ (fun e w' => e = .returned (.agg #[.int .i64 0, .string ⟨#[]⟩, .string ⟨#[]⟩, .string ⟨#[]⟩]) ∧ Line w' g ⟨(c :: l).toArray⟩ 6 ∧ Mut g w1 w') from term_bad g ⟨(c :: l).toArray⟩ w1 hl1 (by rw [size_of]; exact z0) c l rfl HC.out))
  clear hl1 hm1
  go_wp2_with fail
  refine HC1.out.mono ?_
  rintro e w2 ⟨rfl, hl2, hm2⟩
  have HM2 := Lib.hid (HM1.out.trans hm2)
  have HB2 := Lib.hid (HB1.out.mut hm2 (by omega))
  have HC2 := Lib.hid ((show Calls _ _ _ _ (fun e w' => e = .returned (.agg #[.int .i64 0, .string ⟨#[]⟩, .string ⟨#[]⟩, .string ⟨#[]⟩]) ∧ (∃ s', Line w' g s' 6 ∧ s'.size ≤ 16000) ∧ Mut g w2 w') from term_skip g _ w2 hl2 (by rw [size_of]; exact z0)))
  clear hl2 hm2
  go_wp2_with fail
  refine HC2.out.mono ?_
  rintro e w3 ⟨rfl, ⟨s3, hl3, hz3⟩, hm3⟩
  have HM3 := Lib.hid (HM2.out.trans hm3)
  have HB3 := Lib.hid (HB2.out.mut hm3 (by omega))
  have HC3 := Lib.hid ((show Calls _ _ _ _ (fun e w' => e = .returned (.agg #[.int .i64 0, .string ⟨#[]⟩, .string ⟨#[]⟩, .string ⟨#[]⟩]) ∧ (∃ s', Line w' g s' 6 ∧ s'.size ≤ 16000) ∧ Mut g w3 w') from term_skip g _ w3 hl3 hz3))
  clear hl3 hm3
  go_wp2_with fail
  refine HC3.out.mono ?_
  rintro e w4 ⟨rfl, ⟨s4, hl4, hz4⟩, hm4⟩
  have HM4 := Lib.hid (HM3.out.trans hm4)
  have HB4 := Lib.hid (HB3.out.mut hm4 (by omega))
  have hk4 : w.heap.size < w4.heap.size := HB4.out.lt
  have hg4 := hl4.lt
  have hHL := hl4.alloc (.cells zs 42 (0, 0))
  have HC4 := Lib.hid (past_any g s4 6 _ 72 blankB hHL hz4 cf_blank blank_any)
  generalize cnt blankB s4 0 = n at HC4
  clear hl4 hm4 hHL
  go_wp2_with fail
  refine HC4.out.mono ?_
  rintro e w5 ⟨rfl, hl5, hm5⟩
  have HM5 := Lib.hid ((HM4.out.alloc _).trans hm5)
  have hb5 := (HB4.out.alloc _).mut hm5 (by omega)
  have hd5 := (Blk12.new w4 zs).mut hm5 (by omega)
  have hc5 := hl5.cell1
  have d0 := hd5.cell 0 (.int .i64 0) rfl
  have d1 := hd5.cell 1 (.string ⟨#[]⟩) rfl
  have d2 := hd5.cell 2 (.string ⟨#[]⟩) rfl
  have d3 := hd5.cell 3 (.string ⟨#[]⟩) rfl
  have d4 := hd5.cell 4 (.int .i64 0) rfl
  have d5 := hd5.cell 5 (.string ⟨#[]⟩) rfl
  have d6 := hd5.cell 6 (.string ⟨#[]⟩) rfl
  have d7 := hd5.cell 7 (.string ⟨#[]⟩) rfl
  have d8 := hd5.cell 8 (.int .i64 0) rfl
  have d9 := hd5.cell 9 (.string ⟨#[]⟩) rfl
  have d10 := hd5.cell 10 (.string ⟨#[]⟩) rfl
  have d11 := hd5.cell 11 (.string ⟨#[]⟩) rfl
  have df := hd5.free
  have e0 := hb5.cell 0 (.int .i64 0) rfl
  have e1 := hb5.cell 1 (.string ⟨#[]⟩) rfl
  have e2 := hb5.cell 2 (.string ⟨#[]⟩) rfl
  have e3 := hb5.cell 3 (.string ⟨#[]⟩) rfl
  have e4 := hb5.cell 4 (.int .i64 0) rfl
  have e5 := hb5.cell 5 (.string ⟨#[]⟩) rfl
  have e6 := hb5.cell 6 (.string ⟨#[]⟩) rfl
  have e7 := hb5.cell 7 (.string ⟨#[]⟩) rfl
  have e8 := hb5.cell 8 (.int .i64 0) rfl
  have e9 := hb5.cell 9 (.string ⟨#[]⟩) rfl
  have e10 := hb5.cell 10 (.string ⟨#[]⟩) rfl
  have e11 := hb5.cell 11 (.string ⟨#[]⟩) rfl
  have ef := hb5.free
  have hne1 : w.heap.size ≠ w4.heap.size := by omega
  have hne2 : w4.heap.size ≠ w.heap.size := by omega
  have hne3 : g ≠ w.heap.size := by omega
  have HL5 := Lib.hid hl5
  clear hl5 hm5 hb5 hd5
  go_wp2
  go_region
  go_wp2
  refine bodyPost_ret (v := .tuple #[.agg zs, .bool false]) (by simp [results, Tryd.results37, go_sem, zs, hne1, hne2, d0, e0, d1, e1, d2, e2, d3, e3, d4, e4, d5, e5, d6, e6, d7, e7, d8, e8, d9, e9, d10, e10, d11, e11, df, ef]) rfl ?_
  have hy : w.heap.size ≤ w.heap.size := Nat.le_refl _
  refine ⟨rfl, ⟨s4.extract n s4.size, ?la⟩, ?lb⟩
  case la =>
    refine Line.below (W := _) ?_ (Below.drew (Below.refl _ _))
    exact ((((((((((((HL5.out.set2 hne3 _).set2 hne3 _).set2 hne3 _).set2 hne3 _).set2 hne3 _).set2 hne3 _).set2 hne3 _).set2 hne3 _).set2 hne3 _).set2 hne3 _).set2 hne3 _).set2 hne3 _)
  case lb =>
    refine Mut.step (w := _) ?_ (Below.drew (Below.refl _ _))
    exact ((((((((((((HM5.out.set2 hy _).set2 hy _).set2 hy _).set2 hy _).set2 hy _).set2 hy _).set2 hy _).set2 hy _).set2 hy _).set2 hy _).set2 hy _).set2 hy _)
end Go.Proofs.YtpgoemlnjocmhaaDoor.Nt
