/-
  A part of the proof of NtBlanks (whatever the input, the law returns true and the input reads as it did): a literal, a term, a line's end are read back. Conditions stand at each theorem.
-/
import Derived.Test.YtpgoemlnjocmhaaDoorNtB
namespace Go.Proofs.YtpgoemlnjocmhaaDoor.Nt
open Go.RowKit Go.Proofs.YtpgoemlnjocmhaaDoor.Lex
open Go.Proofs.YtpgoemlnjocmhaaDoorW.PrintWords hiding blk_lt blk_cell blk_frozen
set_option linter.unusedVariables false
set_option linter.unusedSimpArgs false

/-- What stands behind a term: a blank or a full stop. -/
def Ends (r : Bs) : Prop := ∃ c l, r = c :: l ∧ (c = 32 ∨ c = 9 ∨ c = 46)
theorem takeWhile_all {p : UInt8 → Bool} (a r : Bs) (ha : ∀ c ∈ a, p c = true) (hr : ∀ c l, r = c :: l → p c = false) : ((a ++ r).takeWhile p) = a := by
  induction a with
  | nil =>
    rcases r with _ | ⟨c, l⟩
    · rfl
    · simp [hr c l rfl]
  | cons x a ih =>
    simp only [List.cons_append]
    rw [List.takeWhile_cons, ha x (by simp)]
    simp only [if_true]
    rw [ih (fun c hc => ha c (by simp [hc]))]
theorem past_ok (g : Nat) (s : ByteArray) (a r : Bs) (er : Int) (w : World) (fn : Nat) (p : Int → Bool) (hS : Line w g s er) (hs : s.size ≤ 16000) (hl : s.data.toList = a ++ r)
    (ha : ∀ c ∈ a, p (c.toNat : Int) = true) (hr : ∀ c l, r = c :: l → p (c.toNat : Int) = false)
    (hf : ∀ (al : Array Value) (w : World), (callFunc fn al).run Tryd.prog w = .ok (.enter fn al) w)
    (hp : ∀ (c : Int) (w : World), Calls Tryd.prog fn #[.int .i32 c] w fun e w' => e = .returned (.bool (p c)) ∧ w = w') :
    Calls Tryd.prog 71 #[.pointer (some ⟨g, 0, none⟩), .func (.func fn) #[] #[]] w fun e w' => e = .returned (.string ⟨a.toArray⟩) ∧ Line w' g ⟨r.toArray⟩ er ∧ Mut g w w' := by
  have h := past_any g s er w fn p hS hs hf hp
  have hc : cnt p s 0 = a.length := by
    unfold cnt
    rw [List.drop_zero, hl, takeWhile_all a r ha hr]
  have e : s = ⟨(a ++ r).toArray⟩ := by rw [← hl]
  have h1 : s.extract 0 (cnt p s 0) = ⟨a.toArray⟩ := by
    rw [hc]
    apply ByteArray.ext
    apply Array.ext'
    subst e
    simp
  have h2 : s.extract (cnt p s 0) s.size = ⟨r.toArray⟩ := by
    have hz : s.size = a.length + r.length := by
      have := congrArg List.length hl
      rw [Array.length_toList] at this
      simpa using this
    rw [hc, hz]
    apply ByteArray.ext
    apply Array.ext'
    subst e
    simp
  rw [h1, h2] at h
  exact h
/-- What stands behind a literal's text. -/
def tailL (la ty : Bs) : Bs := if la ≠ [] then 64 :: la else if ty ≠ [] then 94 :: 94 :: 60 :: (ty ++ [62]) else []
theorem max_mut {g : Nat} {w w' : World} {v : Value} (h : Mut g w w') (h0 : 0 < g) (hl : g < w.heap.size) (hm : w.cell? ⟨0, 0, none⟩ = some v) : w'.cell? ⟨0, 0, none⟩ = some v := by
  rw [← hm]
  exact World.cell?_of_block (w := w) (h.2 0 (by omega) (by omega))
/-- A block that holds a term. -/
def Blk4 (W : World) (n : Nat) (a b c d : Value) : Prop := W.heap[n]? = some (.cells #[a, b, c, d] 40 (0, 0))
theorem Blk4.c0 {W : World} {n : Nat} {a b c d : Value} (h : Blk4 W n a b c d) : W.cell? ⟨n, 0, none⟩ = some a := by rw [blk_cell h 0]; rfl
theorem Blk4.c1 {W : World} {n : Nat} {a b c d : Value} (h : Blk4 W n a b c d) : W.cell? ⟨n, 1, none⟩ = some b := by rw [blk_cell h 1]; rfl
theorem Blk4.c2 {W : World} {n : Nat} {a b c d : Value} (h : Blk4 W n a b c d) : W.cell? ⟨n, 2, none⟩ = some c := by rw [blk_cell h 2]; rfl
theorem Blk4.c3 {W : World} {n : Nat} {a b c d : Value} (h : Blk4 W n a b c d) : W.cell? ⟨n, 3, none⟩ = some d := by rw [blk_cell h 3]; rfl
theorem Blk4.free {W : World} {n : Nat} {a b c d : Value} (h : Blk4 W n a b c d) (j : Nat) : W.frozen? ⟨n, j, none⟩ = false := blk_frozen h j
theorem Blk4.mut {W W' : World} {n g : Nat} {a b c d : Value} (h : Blk4 W n a b c d) (hm : Mut g W W') (hn : n ≠ g) : Blk4 W' n a b c d := hm.blk h hn
theorem Blk4.new (W : World) (a b c d : Value) : Blk4 (W.alloc (.cells #[a, b, c, d] 40 (0, 0))) W.heap.size a b c d := by
  unfold Blk4; show (W.heap.push _)[W.heap.size]? = some _; simp
theorem Blk4.alloc {W : World} {n : Nat} {a b c d : Value} (h : Blk4 W n a b c d) (o : Obj) : Blk4 (W.alloc o) n a b c d := by
  unfold Blk4; rw [Below.heap_alloc _ _ _ (blk_lt h)]; exact h
theorem Blk4.lt {W : World} {n : Nat} {a b c d : Value} (h : Blk4 W n a b c d) : n < W.heap.size := blk_lt h
theorem Mut.set2 {g : Nat} {a w : World} (h : Mut g a w) {p : Addr} (hp : a.heap.size ≤ p.block) (u : Value) : Mut g a (w.setCell p u) :=
  ⟨h.1.setCell (Nat.zero_le _) u, fun i hi hg => by rw [Below.heap_setCell _ _ _ _ (by omega)]; exact h.2 i hi hg⟩
theorem Line.set2 {W : World} {g : Nat} {s : ByteArray} {e : Int} (h : Line W g s e) {p : Addr} (hp : g ≠ p.block) (u : Value) : Line (W.setCell p u) g s e := by
  unfold Line; rw [Below.heap_setCell _ _ _ _ hp]; exact h
theorem index_at : ∀ (a r : Bs), (∀ c ∈ a, c ≠ 62) → Lib.indexByte (a ++ 62 :: r) 62 = (a.length : Int)
  | [], r, _ => by simp [Lib.indexByte]
  | c :: a, r, h => by
    have ih := index_at a r (fun d hd => h d (by simp [hd]))
    have hc : (c == 62) = false := by simpa using h c (by simp)
    simp only [List.cons_append, Lib.indexByte, hc, ih]
    simp
theorem cut_at (a r : Bs) (ha : ∀ c ∈ a, c ≠ 62) : Lib.cut (a ++ 62 :: r) [62] = (a, r, true) := by
  have h : Lib.index (a ++ 62 :: r) [62] = (a.length : Int) := by
    rw [Lib.index_one]; exact index_at a r ha
  unfold Lib.cut
  rw [h, if_pos (by omega)]
  have e : ((a.length : Int)).toNat = a.length := by omega
  rw [e]
  simp [List.drop_append]
theorem Ends.no {r : Bs} (h : Ends r) (p : Bs) (hp : ∀ l, Lib.hasPrefix (32 :: l) p = false ∧ Lib.hasPrefix (9 :: l) p = false ∧ Lib.hasPrefix (46 :: l) p = false) : Lib.hasPrefix r p = false := by
  obtain ⟨c, l, rfl, hc⟩ := h
  rcases hc with rfl | rfl | rfl
  · exact (hp l).1
  · exact (hp l).2.1
  · exact (hp l).2.2
theorem Ends.sign {r : Bs} (h : Ends r) (p : Int → Bool) (h1 : p 32 = false) (h2 : p 9 = false) (h3 : p 46 = false) : ∀ c l, r = c :: l → p (c.toNat : Int) = false := by
  rintro c l rfl
  obtain ⟨c', l', h, hc⟩ := h
  cases h
  rcases hc with rfl | rfl | rfl
  · exact h1
  · exact h2
  · exact h3
set_option maxHeartbeats 1600000 in
set_option maxRecDepth 100000 in
theorem lit_lang (g : Nat) (q la r : Bs) (s : ByteArray) (w : World) (hS : Line w g s 0) (hsz : s.size ≤ 16000) (hs : s.data.toList = q.flatMap escL ++ 34 :: 64 :: (la ++ r))
    (hla : ∀ c ∈ la, langB (c.toNat : Int) = true) (hr : Ends r) :
    Calls Tryd.prog 96 #[.pointer (some ⟨g, 0, none⟩)] w fun e w' => e = .returned (tval 3 q la []) ∧ Line w' g ⟨r.toArray⟩ 0 ∧ Mut g w w' := by
  have hlt := hS.lt
  have HT := Lib.hid (text_ok g q s ⟨(64 :: (la ++ r)).toArray⟩ 0 _ (hS.alloc (.cells #[.int .i64 0, .string ⟨#[]⟩, .string ⟨#[]⟩, .string ⟨#[]⟩] 40 (0, 0))) (by simpa using hs) hsz)
  have HS := Lib.hid hS
  have HZ := Lib.hid hs
  clear hS hs
  go_enter Tryd.func96, Tryd.ntmps96
  go_wp2_with fail
  refine HT.out.mono ?_
  rintro e w1 ⟨rfl, hl1, hm1⟩
  have hB1 : Blk4 w1 w.heap.size (.int .i64 0) (.string ⟨#[]⟩) (.string ⟨#[]⟩) (.string ⟨#[]⟩) := (Blk4.new w _ _ _ _).mut hm1 (by omega)
  have hle1 : w.heap.size < w1.heap.size := hB1.lt
  have hn := hl1.lt
  have hc1 := hl1.cell1
  have hc0 := hl1.cell
  have hsz1 : la.length + r.length + 2 ≤ 16000 := by
    have := congrArg List.length HZ.out
    rw [Array.length_toList] at this
    have hss : s.data.size = s.size := rfl
    simp at this
    omega
  have HT1 := Lib.hid (take_true g ⟨(64 :: (la ++ r)).toArray⟩ ⟨#[64]⟩ ⟨(la ++ r).toArray⟩ 0 _ (hl1.alloc (.cells #[.int .i64 3, .string ⟨q.toArray⟩, .string ⟨#[]⟩, .string ⟨#[]⟩] 40 (0, 0))) (by simp))
  have HB1 := Lib.hid hB1
  have HM1 := Lib.hid hm1
  clear hl1 hm1 hB1
  go_wp2_with fail
  refine HT1.out.mono ?_
  rintro e w2 ⟨rfl, hl2, hm2⟩
  have hb2 : Blk4 w2 w1.heap.size (.int .i64 3) (.string ⟨q.toArray⟩) (.string ⟨#[]⟩) (.string ⟨#[]⟩) := (Blk4.new w1 _ _ _ _).mut hm2 (by omega)
  have HB2 := Lib.hid hb2
  have HA2 := Lib.hid ((HB1.out.alloc _).mut hm2 (show w.heap.size ≠ g by omega))
  have HM2 := Lib.hid ((((Mut.refl g w).alloc _).trans HM1.out).alloc _ |>.trans hm2)
  have HP := Lib.hid (past_ok g _ la r 0 w2 108 langB hl2 (by show (la ++ r).toArray.size ≤ 16000; simp; omega) rfl hla (hr.sign langB rfl rfl rfl) cf_language language_any)
  clear hl2 hm2 hb2
  go_wp2_with fail
  refine HP.out.mono ?_
  rintro e w3 ⟨rfl, hl3, hm3⟩
  have hb3 := HB2.out.mut hm3 (by omega)
  have ha3 := HA2.out.mut hm3 (by omega)
  have d0 := hb3.c0
  have d1 := hb3.c1
  have d2 := hb3.c2
  have d3 := hb3.c3
  have df := hb3.free
  have e0 := ha3.c0
  have e1 := ha3.c1
  have e2 := ha3.c2
  have e3 := ha3.c3
  have ef := ha3.free
  have hne1 : w1.heap.size ≠ w.heap.size := by omega
  have hne2 : w.heap.size ≠ w1.heap.size := by omega
  have HL3 := Lib.hid hl3
  have HM3 := Lib.hid (HM2.out.trans hm3)
  clear hl3 hm3 hb3 ha3
  go_wp2
  refine bodyPost_ret (v := tval 3 q la []) (by simp [results, Tryd.results96, go_sem, d0, d1, d2, d3, df, e0, e1, e2, e3, ef, hne1, hne2, tval]) rfl ?_
  have hx : w.heap.size ≤ w1.heap.size := by omega
  have hy : w.heap.size ≤ w.heap.size := Nat.le_refl _
  have hz1 : g ≠ w.heap.size := by omega
  have hz2 : g ≠ w1.heap.size := by omega
  exact ⟨rfl, ((((HL3.out.set2 hz2 _).set2 hz1 _).set2 hz1 _).set2 hz1 _).set2 hz1 _, ((((HM3.out.set2 hx _).set2 hy _).set2 hy _).set2 hy _).set2 hy _⟩
set_option maxHeartbeats 1600000 in
set_option maxRecDepth 100000 in
theorem lit_bare (g : Nat) (q r : Bs) (s : ByteArray) (w : World) (hS : Line w g s 0) (hsz : s.size ≤ 16000) (hs : s.data.toList = q.flatMap escL ++ 34 :: r)
    (hr : Ends r) :
    Calls Tryd.prog 96 #[.pointer (some ⟨g, 0, none⟩)] w fun e w' => e = .returned (tval 3 q [] []) ∧ Line w' g ⟨r.toArray⟩ 0 ∧ Mut g w w' := by
  have hlt := hS.lt
  have HT := Lib.hid (text_ok g q s ⟨(r).toArray⟩ 0 _ (hS.alloc (.cells #[.int .i64 0, .string ⟨#[]⟩, .string ⟨#[]⟩, .string ⟨#[]⟩] 40 (0, 0))) (by simpa using hs) hsz)
  have HS := Lib.hid hS
  have HZ := Lib.hid hs
  clear hS hs
  go_enter Tryd.func96, Tryd.ntmps96
  go_wp2_with fail
  refine HT.out.mono ?_
  rintro e w1 ⟨rfl, hl1, hm1⟩
  have hB1 : Blk4 w1 w.heap.size (.int .i64 0) (.string ⟨#[]⟩) (.string ⟨#[]⟩) (.string ⟨#[]⟩) := (Blk4.new w _ _ _ _).mut hm1 (by omega)
  have hle1 : w.heap.size < w1.heap.size := hB1.lt
  have hn := hl1.lt
  have hc1 := hl1.cell1
  have hc0 := hl1.cell
  have HT1 := Lib.hid (take_false g ⟨r.toArray⟩ ⟨#[64]⟩ 0 _ (hl1.alloc (.cells #[.int .i64 3, .string ⟨q.toArray⟩, .string ⟨#[]⟩, .string ⟨#[]⟩] 40 (0, 0))) (hr.no _ (fun l => by simp [Lib.hasPrefix, List.isPrefixOf])))
  have HB1 := Lib.hid hB1
  have HM1 := Lib.hid hm1
  clear hl1 hm1 hB1
  go_wp2_with fail
  refine HT1.out.mono ?_
  rintro e w2 ⟨rfl, hl2, hm2⟩
  have hb2 : Blk4 w2 w1.heap.size (.int .i64 3) (.string ⟨q.toArray⟩) (.string ⟨#[]⟩) (.string ⟨#[]⟩) := (Blk4.new w1 _ _ _ _).mut hm2 (by omega)
  have HB2 := Lib.hid hb2
  have HA2 := Lib.hid ((HB1.out.alloc _).mut hm2 (show w.heap.size ≠ g by omega))
  have HM2 := Lib.hid ((((Mut.refl g w).alloc _).trans HM1.out).alloc _ |>.trans hm2)
  have HP := Lib.hid (take_false g ⟨r.toArray⟩ ⟨#[94, 94]⟩ 0 _ hl2 (hr.no _ (fun l => by simp [Lib.hasPrefix, List.isPrefixOf])))
  clear hl2 hm2 hb2
  go_wp2_with fail
  refine HP.out.mono ?_
  rintro e w3 ⟨rfl, hl3, hm3⟩
  have hb3 := HB2.out.mut hm3 (by omega)
  have ha3 := HA2.out.mut hm3 (by omega)
  have d0 := hb3.c0
  have d1 := hb3.c1
  have d2 := hb3.c2
  have d3 := hb3.c3
  have df := hb3.free
  have e0 := ha3.c0
  have e1 := ha3.c1
  have e2 := ha3.c2
  have e3 := ha3.c3
  have ef := ha3.free
  have hne1 : w1.heap.size ≠ w.heap.size := by omega
  have hne2 : w.heap.size ≠ w1.heap.size := by omega
  have HL3 := Lib.hid hl3
  have HM3 := Lib.hid (HM2.out.trans hm3)
  clear hl3 hm3 hb3 ha3
  go_wp2
  refine bodyPost_ret (v := tval 3 q [] []) (by simp [results, Tryd.results96, go_sem, d0, d1, d2, d3, df, e0, e1, e2, e3, ef, hne1, hne2, tval]) rfl ?_
  have hx : w.heap.size ≤ w1.heap.size := by omega
  have hy : w.heap.size ≤ w.heap.size := Nat.le_refl _
  have hz1 : g ≠ w.heap.size := by omega
  have hz2 : g ≠ w1.heap.size := by omega
  exact ⟨rfl, (((HL3.out.set2 hz1 _).set2 hz1 _).set2 hz1 _).set2 hz1 _, (((HM3.out.set2 hy _).set2 hy _).set2 hy _).set2 hy _⟩
set_option maxHeartbeats 1600000 in
set_option maxRecDepth 100000 in
theorem lit_type (g : Nat) (q ty r : Bs) (s : ByteArray) (w : World) (hS : Line w g s 0) (hsz : s.size ≤ 16000) (hs : s.data.toList = q.flatMap escL ++ 34 :: 94 :: 94 :: 60 :: (ty ++ 62 :: r))
    (hr : Ends r) (hty : ∀ c ∈ ty, c ≠ 62) (h0 : 0 < g) (m : Int) (hm : w.cell? ⟨0, 0, none⟩ = some (.int .i64 m)) :
    Calls Tryd.prog 96 #[.pointer (some ⟨g, 0, none⟩)] w fun e w' => e = .returned (tval 3 q [] ty) ∧ Line w' g ⟨r.toArray⟩ 0 ∧ Mut g w w' := by
  have hlt := hS.lt
  have HT := Lib.hid (text_ok g q s ⟨(94 :: 94 :: 60 :: (ty ++ 62 :: r)).toArray⟩ 0 _ (hS.alloc (.cells #[.int .i64 0, .string ⟨#[]⟩, .string ⟨#[]⟩, .string ⟨#[]⟩] 40 (0, 0))) (by simpa using hs) hsz)
  have HS := Lib.hid hS
  have HZ := Lib.hid hs
  clear hS hs
  go_enter Tryd.func96, Tryd.ntmps96
  go_wp2_with fail
  refine HT.out.mono ?_
  rintro e w1 ⟨rfl, hl1, hm1⟩
  have hB1 : Blk4 w1 w.heap.size (.int .i64 0) (.string ⟨#[]⟩) (.string ⟨#[]⟩) (.string ⟨#[]⟩) := (Blk4.new w _ _ _ _).mut hm1 (by omega)
  have hle1 : w.heap.size < w1.heap.size := hB1.lt
  have hn := hl1.lt
  have hc1 := hl1.cell1
  have hc0 := hl1.cell
  have hsz1 : ty.length + r.length + 4 ≤ 16000 := by
    have := congrArg List.length HZ.out
    rw [Array.length_toList] at this
    have hss : s.data.size = s.size := rfl
    simp at this
    omega
  have HT1 := Lib.hid (take_false g ⟨(94 :: 94 :: 60 :: (ty ++ 62 :: r)).toArray⟩ ⟨#[64]⟩ 0 _ (hl1.alloc (.cells #[.int .i64 3, .string ⟨q.toArray⟩, .string ⟨#[]⟩, .string ⟨#[]⟩] 40 (0, 0))) (by simp [Lib.hasPrefix, List.isPrefixOf]))
  have HB1 := Lib.hid hB1
  have HM1 := Lib.hid hm1
  have HX := Lib.hid hm
  clear hl1 hm1 hB1 hm
  go_wp2_with fail
  refine HT1.out.mono ?_
  rintro e w2 ⟨rfl, hl2, hm2⟩
  have hb2 : Blk4 w2 w1.heap.size (.int .i64 3) (.string ⟨q.toArray⟩) (.string ⟨#[]⟩) (.string ⟨#[]⟩) := (Blk4.new w1 _ _ _ _).mut hm2 (by omega)
  have HB2 := Lib.hid hb2
  have HA2 := Lib.hid ((HB1.out.alloc _).mut hm2 (show w.heap.size ≠ g by omega))
  have HM2 := Lib.hid ((((Mut.refl g w).alloc _).trans HM1.out).alloc _ |>.trans hm2)
  have HP := Lib.hid (take_true g ⟨(94 :: 94 :: 60 :: (ty ++ 62 :: r)).toArray⟩ ⟨#[94, 94]⟩ ⟨(60 :: (ty ++ 62 :: r)).toArray⟩ 0 _ hl2 (by simp))
  clear hl2 hm2 hb2
  go_wp2_with fail
  refine HP.out.mono ?_
  rintro e w3 ⟨rfl, hl3, hm3⟩
  have HB3 := Lib.hid (HB2.out.mut hm3 (by omega))
  have HA3 := Lib.hid (HA2.out.mut hm3 (by omega))
  have HM3 := Lib.hid (HM2.out.trans hm3)
  have HP3 := Lib.hid (take_true g ⟨(60 :: (ty ++ 62 :: r)).toArray⟩ ⟨#[60]⟩ ⟨(ty ++ 62 :: r).toArray⟩ 0 _ hl3 (by simp))
  clear hl3 hm3
  go_wp2_with fail
  refine HP3.out.mono ?_
  rintro e w4 ⟨rfl, hl4, hm4⟩
  have HB4 := Lib.hid (HB3.out.mut hm4 (by omega))
  have HA4 := Lib.hid (HA3.out.mut hm4 (by omega))
  have HM4 := Lib.hid (HM3.out.trans hm4)
  have HP4 := Lib.hid (reference_ok g ⟨(ty ++ 62 :: r).toArray⟩ ⟨ty.toArray⟩ ⟨r.toArray⟩ 0 m _ hl4 (by show (ty ++ 62 :: r).toArray.size ≤ 16000; simp; omega) (max_mut HM4.out h0 hlt HX.out) (cut_at ty r hty))
  clear hl4 hm4
  go_wp2_with fail
  refine HP4.out.mono ?_
  rintro e w5 ⟨rfl, hl5, hm5⟩
  have hb3 := HB4.out.mut hm5 (by omega)
  have ha3 := HA4.out.mut hm5 (by omega)
  have d0 := hb3.c0
  have d1 := hb3.c1
  have d2 := hb3.c2
  have d3 := hb3.c3
  have df := hb3.free
  have e0 := ha3.c0
  have e1 := ha3.c1
  have e2 := ha3.c2
  have e3 := ha3.c3
  have ef := ha3.free
  have hne1 : w1.heap.size ≠ w.heap.size := by omega
  have hne2 : w.heap.size ≠ w1.heap.size := by omega
  have HL5 := Lib.hid hl5
  have HM5 := Lib.hid (HM4.out.trans hm5)
  clear hl5 hm5 hb3 ha3
  go_wp2
  refine bodyPost_ret (v := tval 3 q [] ty) (by simp [results, Tryd.results96, go_sem, d0, d1, d2, d3, df, e0, e1, e2, e3, ef, hne1, hne2, tval]) rfl ?_
  have hx : w.heap.size ≤ w1.heap.size := by omega
  have hy : w.heap.size ≤ w.heap.size := Nat.le_refl _
  have hz1 : g ≠ w.heap.size := by omega
  have hz2 : g ≠ w1.heap.size := by omega
  exact ⟨rfl, ((((HL5.out.set2 hz2 _).set2 hz1 _).set2 hz1 _).set2 hz1 _).set2 hz1 _, ((((HM5.out.set2 hx _).set2 hy _).set2 hy _).set2 hy _).set2 hy _⟩
end Go.Proofs.YtpgoemlnjocmhaaDoor.Nt
