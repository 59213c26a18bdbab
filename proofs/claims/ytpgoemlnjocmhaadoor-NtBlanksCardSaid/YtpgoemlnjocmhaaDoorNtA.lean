/-
  A part of the proof of NtBlanks (whatever the input, the law returns true and the input reads as it did): what is left of a line, its signs, how a text and a reference are taken. Conditions stand at each theorem.
-/
import Derived.Test.YtpgoemlnjocmhaaDoorLexB
import Derived.Test.YtpgoemlnjocmhaaDoorTrmA
import Derived.WalkMore
import Derived.ScopeJumps
namespace Go.Proofs.YtpgoemlnjocmhaaDoor.Nt
open Go.RowKit Go.Proofs.YtpgoemlnjocmhaaDoor.Lex
open Go.Proofs.YtpgoemlnjocmhaaDoorW.PrintWords hiding blk_lt blk_cell blk_frozen
set_option linter.unusedVariables false
set_option linter.unusedSimpArgs false

/-! What is left of a line: block g. -/
def Line (W : World) (g : Nat) (s : ByteArray) (e : Int) : Prop := W.heap[g]? = some (.cells #[.string s, .int .i64 e] 64 (0, 0))
/-- Block g alone may be another one; more blocks may have come. -/
def Mut (g : Nat) (w w' : World) : Prop := Below 0 w w' ∧ ∀ b, b < w.heap.size → b ≠ g → w'.heap[b]? = w.heap[b]?
theorem Mut.refl (g : Nat) (w : World) : Mut g w w := ⟨Below.refl _ _, fun _ _ _ => rfl⟩
theorem Mut.trans {g : Nat} {a b c : World} (h : Mut g a b) (k : Mut g b c) : Mut g a c :=
  ⟨h.1.trans k.1, fun i hi hg => (k.2 i (by have := h.1.size; omega) hg).trans (h.2 i hi hg)⟩
theorem Mut.set {g : Nat} {a w : World} (h : Mut g a w) (j : Nat) (u : Value) : Mut g a (w.setCell ⟨g, j, none⟩ u) :=
  ⟨h.1.setCell (Nat.zero_le _) u, fun i hi hg => by rw [Below.heap_setCell _ _ _ _ (by exact hg)]; exact h.2 i hi hg⟩
theorem Mut.of_below {g : Nat} {w w' : World} (h : Below w.heap.size w w') : Mut g w w' := ⟨h.mono (Nat.zero_le _), fun i hi _ => h.block i hi⟩
theorem Mut.below {g B : Nat} {w w' : World} (h : Mut g w w') (hg : B ≤ g) (hB : B ≤ w.heap.size) : Below B w w' :=
  ⟨h.1.os, h.1.tape, h.1.output, h.1.size, fun k hk => h.2 k (by omega) (by omega)⟩
theorem Mut.step {g : Nat} {a w w' : World} (h : Mut g a w) (k : Below w.heap.size w w') : Mut g a w' := h.trans (Mut.of_below k)
theorem Mut.blk {g k : Nat} {w w' : World} {o : Obj} (h : Mut g w w') (hb : w.heap[k]? = some o) (hk : k ≠ g) : w'.heap[k]? = some o := by
  rw [h.2 k (blk_lt hb) hk]; exact hb
theorem bel_drewN {B : Nat} {a w : World} (h : Below B a w) (n : Nat) : Below B a (w.drewN n) := ⟨h.os, h.tape, h.output, h.size, h.block⟩
theorem Line.cell {W : World} {g : Nat} {s : ByteArray} {e : Int} (h : Line W g s e) : W.cell? ⟨g, 0, none⟩ = some (.string s) := by rw [blk_cell h 0]; rfl
theorem Line.cell1 {W : World} {g : Nat} {s : ByteArray} {e : Int} (h : Line W g s e) : W.cell? ⟨g, 1, none⟩ = some (.int .i64 e) := by rw [blk_cell h 1]; rfl
theorem Line.free {W : World} {g : Nat} {s : ByteArray} {e : Int} (h : Line W g s e) (j : Nat) : W.frozen? ⟨g, j, none⟩ = false := blk_frozen h j
theorem Line.lt {W : World} {g : Nat} {s : ByteArray} {e : Int} (h : Line W g s e) : g < W.heap.size := blk_lt h
theorem Line.set0 {W : World} {g : Nat} {s : ByteArray} {e : Int} (h : Line W g s e) (t : ByteArray) : Line (W.setCell ⟨g, 0, none⟩ (.string t)) g t e := set_blk h 0 _
theorem Line.set1 {W : World} {g : Nat} {s : ByteArray} {e : Int} (h : Line W g s e) (f : Int) : Line (W.setCell ⟨g, 1, none⟩ (.int .i64 f)) g s f := set_blk h 1 _
theorem Line.below {W W' : World} {g : Nat} {s : ByteArray} {e : Int} (h : Line W g s e) (hb : Below W.heap.size W W') : Line W' g s e := by
  unfold Line; rw [hb.block g h.lt]; exact h

/-! Signs. -/
def blankB (c : Int) : Bool := c == 32 || c == 9
def nameC (c : Int) : Bool := (decide (97 ≤ c) && decide (c ≤ 122)) || (decide (65 ≤ c) && decide (c ≤ 90)) || (decide (48 ≤ c) && decide (c ≤ 57)) || c == 95
def langB (c : Int) : Bool := (decide (97 ≤ c) && decide (c ≤ 122)) || c == 45
def escC (c : Int) : Int := if c = 116 then 9 else if c = 110 then 10 else if c = 114 then 13 else if c = 34 ∨ c = 92 then c else 0

theorem blank_any (c : Int) (w : World) : Calls Tryd.prog 72 #[.int .i32 c] w fun e w' => e = .returned (.bool (blankB c)) ∧ w = w' := by
  by_cases h1 : c = 32
  · subst h1; go_enter Tryd.func72, Tryd.ntmps72; go_wp2; go_ret; exact ⟨by simp [blankB], rfl⟩
  have b1 : (c == 32) = false := by simpa using h1
  by_cases h2 : c = 9
  · subst h2; go_enter Tryd.func72, Tryd.ntmps72; go_wp2; go_ret; exact ⟨by simp [blankB], rfl⟩
  have b2 : (c == 9) = false := by simpa using h2
  go_enter Tryd.func72, Tryd.ntmps72; go_wp2; go_ret; exact ⟨by simp [blankB, b1, b2], rfl⟩
set_option maxHeartbeats 400000 in
theorem name_any (c : Int) (w : World) : Calls Tryd.prog 95 #[.int .i32 c] w fun e w' => e = .returned (.bool (nameC c)) ∧ w = w' := by
  by_cases h0 : c = 95
  · subst h0; go_enter Tryd.func95, Tryd.ntmps95; go_wp2; go_ret; exact ⟨by simp [nameC], rfl⟩
  have b0 : (c == 95) = false := by simpa using h0
  by_cases h1 : 97 ≤ c <;> by_cases h2 : c ≤ 122 <;> by_cases h3 : 65 ≤ c <;> by_cases h4 : c ≤ 90 <;> by_cases h5 : 48 ≤ c <;> by_cases h6 : c ≤ 57 <;> first
    | (exfalso; omega)
    | (go_enter Tryd.func95, Tryd.ntmps95
       go_wp2
       go_ret
       exact ⟨by simp [nameC, *], rfl⟩)
theorem language_any (c : Int) (w : World) : Calls Tryd.prog 108 #[.int .i32 c] w fun e w' => e = .returned (.bool (langB c)) ∧ w = w' := by
  by_cases h0 : c = 45
  · subst h0; go_enter Tryd.func108, Tryd.ntmps108; go_wp2; go_ret; exact ⟨by simp [langB], rfl⟩
  have b0 : (c == 45) = false := by simpa using h0
  by_cases h1 : 97 ≤ c <;> by_cases h2 : c ≤ 122 <;> first
    | (exfalso; omega)
    | (go_enter Tryd.func108, Tryd.ntmps108
       go_wp2
       go_ret
       exact ⟨by simp [langB, *], rfl⟩)
set_option maxHeartbeats 400000 in
theorem esc_any (c : Int) (w : World) : Calls Tryd.prog 119 #[.int .u8 c] w fun e w' => e = .returned (.int .u8 (escC c)) ∧ w = w' := by
  by_cases e1 : c = 116
  · subst e1; go_enter Tryd.func119, Tryd.ntmps119; go_wp2; go_ret; exact ⟨by simp [escC], rfl⟩
  by_cases e2 : c = 110
  · subst e2; go_enter Tryd.func119, Tryd.ntmps119; go_wp2; go_ret; exact ⟨by simp [escC], rfl⟩
  by_cases e3 : c = 114
  · subst e3; go_enter Tryd.func119, Tryd.ntmps119; go_wp2; go_ret; exact ⟨by simp [escC], rfl⟩
  by_cases e4 : c = 34
  · subst e4; go_enter Tryd.func119, Tryd.ntmps119; go_wp2; go_ret; exact ⟨by simp [escC], rfl⟩
  by_cases e5 : c = 92
  · subst e5; go_enter Tryd.func119, Tryd.ntmps119; go_wp2; go_ret; exact ⟨by simp [escC], rfl⟩
  have b1 : (c == 116) = false := by simpa using e1
  have b2 : (c == 110) = false := by simpa using e2
  have b3 : (c == 114) = false := by simpa using e3
  have b4 : (c == 34) = false := by simpa using e4
  have b5 : (c == 92) = false := by simpa using e5
  go_enter Tryd.func119, Tryd.ntmps119; go_wp2; go_ret; exact ⟨by simp [escC, e1, e2, e3, e4, e5], rfl⟩
theorem cf_blank : ∀ (al : Array Value) (w : World), (callFunc 72 al).run Tryd.prog w = .ok (.enter 72 al) w := fun _ _ => by kernel_rfl
theorem cf_name : ∀ (al : Array Value) (w : World), (callFunc 95 al).run Tryd.prog w = .ok (.enter 95 al) w := fun _ _ => by kernel_rfl
theorem cf_language : ∀ (al : Array Value) (w : World), (callFunc 108 al).run Tryd.prog w = .ok (.enter 108 al) w := fun _ _ => by kernel_rfl

/-! Past signs. -/
set_option maxHeartbeats 800000 in
set_option maxRecDepth 100000 in
theorem past_any (g : Nat) (s : ByteArray) (er : Int) (w : World) (fn : Nat) (p : Int → Bool) (hS : Line w g s er) (hs : s.size ≤ 16000)
    (hf : ∀ (al : Array Value) (w : World), (callFunc fn al).run Tryd.prog w = .ok (.enter fn al) w)
    (hp : ∀ (c : Int) (w : World), Calls Tryd.prog fn #[.int .i32 c] w fun e w' => e = .returned (.bool (p c)) ∧ w = w') :
    Calls Tryd.prog 71 #[.pointer (some ⟨g, 0, none⟩), .func (.func fn) #[] #[]] w fun e w' => e = .returned (.string (s.extract 0 (cnt p s 0))) ∧ Line w' g (s.extract (cnt p s 0) s.size) er ∧ Mut g w w' := by
  have HP := Lib.hid hp
  have hc := hS.cell
  have hfr := hS.free 0
  have HS := Lib.hid hS
  clear hp hS
  go_enter Tryd.func71, Tryd.ntmps71
  go_wp2
  go_loop [5] (fun v => ∃ i : Int, v = .int .i64 i ∧ 0 ≤ i ∧ i ≤ s.size ∧ Hid ((cnt p s 0 : Int) = i + cnt p s i.toNat))
     (fun v => s.size - (intOf v).toNat)
  case atStart => exact ⟨0, by simp, by omega, by omega, Lib.hid (by simp)⟩
  case round =>
    obtain ⟨i, rfl, p5, hi2, HR⟩ := hrel
    by_cases hlt : i < s.size
    · have hby := cnt_yes p s i.toNat (by omega)
      have hbn := cnt_no p s i.toNat (by omega)
      rw [Int.toNat_of_nonneg p5] at hby hbn
      have hbr := bt_range s i
      have HC := Lib.hid (HP.out (bt s i) w)
      have HB := Lib.hid hby
      have HN := Lib.hid hbn
      clear hby hbn HP
      have hx5 := bt_at s i
      have hb1 := hbr.1
      have hb2 := hbr.2
      clear hbr
      cases hpc : p (bt s i) with
      | true =>
        rw [hpc] at HC
        have HB1 := Lib.hid (HB.out hpc)
        clear HB HN hpc
        go_wp2_with ((with_reducible refine HC.out.mono ?_); rintro e w' ⟨rfl, rfl⟩)
        go_round
        case rel => exact ⟨i+1, by go_num, by omega, by omega, Lib.hid (by have := HR.out; have := HB1.out; rw [show (i+1).toNat = i.toNat + 1 by omega]; omega)⟩
        case measure => simp [intOf]; omega
      | false =>
        rw [hpc] at HC
        have HB1 := Lib.hid (HN.out hpc)
        have hz : cnt p s 0 = i.toNat := by have := HR.out; have := HB1.out; omega
        have HZ := Lib.hid hz
        clear HB HN hpc hz
        go_wp2_with ((with_reducible refine HC.out.mono ?_); rintro e w' ⟨rfl, rfl⟩)
        go_ret
        rw [HZ.out]
        exact ⟨by simp, HS.out.set0 _, (Mut.refl _ _).set _ _⟩
    · have HB1 := Lib.hid (cnt_end p s i.toNat (by omega))
      have hz : cnt p s 0 = i.toNat := by have := HR.out; have := HB1.out; omega
      have HZ := Lib.hid hz
      clear hz
      go_wp2
      go_ret
      rw [HZ.out]
      exact ⟨by simp, HS.out.set0 _, (Mut.refl _ _).set _ _⟩

/-! A text is taken. -/
set_option maxHeartbeats 800000 in
theorem take_any (g : Nat) (s t : ByteArray) (er : Int) (w : World) (hS : Line w g s er) :
    Calls Tryd.prog 73 #[.pointer (some ⟨g, 0, none⟩), .string t] w fun e w' => e = .returned (.bool (Lib.hasPrefix s.data.toList t.data.toList)) ∧ Line w' g ⟨(Lib.trimPrefix s.data.toList t.data.toList).toArray⟩ er ∧ Mut g w w' := by
  have hc := hS.cell
  have hfr := hS.free 0
  have hcut := fun W => Tryd.strings_CutPrefix s t W
  generalize Lib.hasPrefix s.data.toList t.data.toList = b at *
  generalize (⟨(Lib.trimPrefix s.data.toList t.data.toList).toArray⟩ : ByteArray) = s' at *
  have HS := Lib.hid hS
  have HC := Lib.hid hcut
  clear hS hcut
  go_enter Tryd.func73, Tryd.ntmps73
  go_wp2_with ((with_reducible refine (HC.out _).mono ?_); rintro e w' ⟨rfl, rfl⟩)
  go_ret
  exact ⟨rfl, HS.out.set0 _, (Mut.refl _ _).set _ _⟩

/-! A byte doesn't fit. -/
theorem fail_any (g : Nat) (s : ByteArray) (er : Int) (w : World) (hS : Line w g s er) :
    Calls Tryd.prog 74 #[.pointer (some ⟨g, 0, none⟩)] w fun e w' => e = .returned (.tuple #[]) ∧ Line w' g s 6 ∧ Mut g w w' := by
  have hc := hS.cell1
  have hfr := hS.free 1
  have HS := Lib.hid hS
  clear hS
  go_enter Tryd.func74, Tryd.ntmps74
  go_wp2
  go_end0
  exact ⟨rfl, HS.out.set1 _, (Mut.refl _ _).set _ _⟩

/-! A reference: up to its end. -/
set_option maxHeartbeats 800000 in
theorem reference_ok (g : Nat) (s a r : ByteArray) (er m : Int) (w : World) (hS : Line w g s er) (hs : s.size ≤ 16000) (hm : w.cell? ⟨0, 0, none⟩ = some (.int .i64 m))
    (hcut : Lib.cut s.data.toList [62] = (a.data.toList, r.data.toList, true)) :
    Calls Tryd.prog 94 #[.pointer (some ⟨g, 0, none⟩)] w fun e w' => e = .returned (.string a) ∧ Line w' g r er ∧ Mut g w w' := by
  have hc := hS.cell
  have h := Tryd.strings_Cut s ⟨#[62]⟩ m w (by omega) hm
  rw [show (⟨#[62]⟩ : ByteArray).data.toList = [62] from rfl, hcut] at h
  simp only [Array.toArray_toList] at h
  have HS := Lib.hid hS
  have HC := Lib.hid h
  have hfr := fun n => (HS.out.below (bel_drewN (Below.refl _ w) n)).free 0
  clear hS hcut h
  go_enter Tryd.func94, Tryd.ntmps94
  go_wp2_with fail
  refine HC.out.mono ?_
  rintro e w1 ⟨rfl, n, rfl⟩
  have hfr := hfr n
  go_wp2
  go_ret
  exact ⟨rfl, (HS.out.below (bel_drewN (Below.refl _ w) n)).set0 _, ((Mut.refl _ _).step (bel_drewN (Below.refl _ w) n)).set _ _⟩
end Go.Proofs.YtpgoemlnjocmhaaDoor.Nt
