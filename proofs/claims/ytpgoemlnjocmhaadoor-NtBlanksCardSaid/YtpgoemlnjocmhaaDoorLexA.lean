/-
  A part of the proof of LexTokens (whatever the input, the law returns true and the input reads as it did): rows of letters. Conditions stand at each theorem.
-/
import Derived.Test.YtpgoemlnjocmhaaDoorProg
import Derived.Test.YtpgoemlnjocmhaaDoorWWords
import Derived.WalkKit
import Derived.WalkSpells
import Derived.WalkLawsBesides
import Derived.Lib.Hide
import Derived.Deep.LoopGhost
import Derived.BigQuiet
namespace Go.Proofs.YtpgoemlnjocmhaaDoor.Lex
open Go.RowKit Go.Proofs.YtpgoemlnjocmhaaDoorW.PrintWords
set_option linter.unusedVariables false
set_option linter.unusedSimpArgs false

/-- How many bytes from place i on are so. -/
def cnt (p : Int → Bool) (s : ByteArray) (i : Nat) : Nat := ((s.data.toList.drop i).takeWhile (fun c => p c.toNat)).length
theorem drop_bt (s : ByteArray) (i : Nat) (h : i < s.size) : ∃ c : UInt8, s.data.toList.drop i = c :: s.data.toList.drop (i + 1) ∧ (c.toNat : Int) = bt s i := by
  refine ⟨s[i], ?_, by simp [bt, h]⟩
  rw [List.drop_eq_getElem_cons (by simpa using h)]; rfl
theorem cnt_yes (p : Int → Bool) (s : ByteArray) (i : Nat) (h : i < s.size) (hp : p (bt s i) = true) : cnt p s i = 1 + cnt p s (i + 1) := by
  obtain ⟨c, h1, h2⟩ := drop_bt s i h
  rw [← h2] at hp
  simp [cnt, h1, hp]; omega
theorem cnt_no (p : Int → Bool) (s : ByteArray) (i : Nat) (h : i < s.size) (hp : p (bt s i) = false) : cnt p s i = 0 := by
  obtain ⟨c, h1, h2⟩ := drop_bt s i h
  rw [← h2] at hp
  simp [cnt, h1, hp]
theorem cnt_end (p : Int → Bool) (s : ByteArray) (i : Nat) (h : ¬ i < s.size) : cnt p s i = 0 := by
  unfold cnt; rw [List.drop_eq_nil_of_le (by simp; omega)]; rfl
theorem cnt_le (p : Int → Bool) (s : ByteArray) (i : Nat) : cnt p s i ≤ s.size - i := by
  unfold cnt
  have := List.takeWhile_sublist (p := fun c : UInt8 => p c.toNat) (l := s.data.toList.drop i)
  have h2 := this.length_le
  simpa using h2

set_option maxHeartbeats 400000 in
set_option maxRecDepth 100000 in
theorem row_any (g : Nat) (s : ByteArray) (w : World) (fr : Int) (fn : Nat) (cap : Array Value) (p : Int → Bool)
    (hc : w.cell? ⟨g, 0, none⟩ = some (.string s)) (hs : s.size ≤ 140737488351232) (hfr0 : 0 ≤ fr) (hfr : fr ≤ 140737488351232)
    (hf : ∀ (al : Array Value) (w : World), (callFunc fn al).run Tryd.prog w = .ok (.enter fn al) w)
    (hp : ∀ c : Int, 0 ≤ c → c ≤ 255 → Calls Tryd.prog fn (#[.int .i32 c] ++ cap) w fun e w' => e = .returned (.bool (p c)) ∧ w = w') :
    Calls Tryd.prog 42 #[.pointer (some ⟨g, 0, none⟩), .int .i64 fr, .func (.func fn) #[] cap] w fun e w' => e = .returned (.int .i64 (cnt p s fr.toNat)) ∧ w = w' := by
  have HP := Lib.hid hp
  clear hp
  go_enter Tryd.func42, Tryd.ntmps42
  go_wp2
  go_loop [7] (fun v => ∃ i : Int, v = .int .i64 i ∧ fr ≤ i ∧ i ≤ 140737488351232 ∧ Hid ((cnt p s fr.toNat : Int) = i - fr + cnt p s i.toNat))
     (fun v => s.size - (intOf v).toNat)
  case atStart => exact ⟨fr, by simp, by omega, by omega, Lib.hid (by omega)⟩
  case round =>
    obtain ⟨i, rfl, hi1, hi2, HR⟩ := hrel
    have p5 : 0 ≤ i := by omega
    by_cases hlt : i < s.size
    · have hby := cnt_yes p s i.toNat (by omega)
      have hbn := cnt_no p s i.toNat (by omega)
      rw [Int.toNat_of_nonneg p5] at hby hbn
      have hbr := bt_range s i
      have HC := Lib.hid (HP.out (bt s i) hbr.1 hbr.2)
      have HB := Lib.hid hby
      have HN := Lib.hid hbn
      clear hby hbn HP
      have hx5 := bt_at s i
      have hb1 := hbr.1
      have hb2 := hbr.2
      clear hbr
      cases hpc : p (bt s i) with
      | true =>
        rw [hpc] at HC
        have HB1 := Lib.hid (HB.out hpc)
        clear HB HN hpc
        go_wp2_with ((with_reducible refine HC.out.mono ?_); rintro e w' ⟨rfl, rfl⟩)
        go_round
        case rel => exact ⟨i+1, by go_num, by omega, by omega, Lib.hid (by have := HR.out; have := HB1.out; rw [show (i+1).toNat = i.toNat + 1 by omega]; omega)⟩
        case measure => simp [intOf]; omega
      | false =>
        rw [hpc] at HC
        have HB1 := Lib.hid (HN.out hpc)
        clear HB HN hpc
        go_wp2_with ((with_reducible refine HC.out.mono ?_); rintro e w' ⟨rfl, rfl⟩)
        go_ret
        have := HR.out
        have := HB1.out
        refine ⟨?_, rfl⟩
        simp
        omega
    · have HB1 := Lib.hid (cnt_end p s i.toNat (by omega))
      go_wp2
      go_ret
      have := HR.out
      have := HB1.out
      refine ⟨?_, rfl⟩
      simp
      omega

/-! The scanner's state. -/
abbrev Tok := Int × ByteArray
def cellsOf (l : List Tok) : List Value := l.flatMap fun t => [.int .i64 t.1, .string t.2]
theorem cellsOf_len (l : List Tok) : (cellsOf l).length = l.length * 2 := by
  induction l with
  | nil => rfl
  | cons a l ih => simp [cellsOf] at ih ⊢; omega
theorem cellsOf_snoc (l : List Tok) (t : Tok) : cellsOf (l ++ [t]) = cellsOf l ++ [.int .i64 t.1, .string t.2] := by simp [cellsOf]
/-- Block g is a scanner, with a text that is left and tokens in a row of the call's own. -/
def Scan (W : World) (g B : Nat) (s : ByteArray) (out : List Tok) : Prop :=
  ∃ v, W.heap[g]? = some (.cells #[.string s, v] 52 (0, 0)) ∧ W.ownsRow B 48 2 v out.length (cellsOf out) ∧ B ≤ g ∧ s.size ≤ 140737488351232 ∧ out.length ≤ 4000
theorem Scan.ne {W : World} {g B : Nat} {s : ByteArray} {v : Value} {n : Nat} {xs : List Value} (h : W.heap[g]? = some (.cells #[.string s, v] 52 (0, 0))) (ho : W.ownsRow B 48 2 v n xs) : some g ≠ v.ownBlock :=
  own_ne ho h (by decide)

theorem info_tok : (Tryd.prog.info? 48).map (fun i => (i.zero, i.size, i.bytes)) = some (some (.agg #[.int .i64 0, .string ⟨#[]⟩]), 2, 24) := by kernel_rfl
theorem blk_cell {W : World} {g : Nat} {cs : Array Value} {t : TypeId} {fr : Nat × Nat} (h : W.heap[g]? = some (.cells cs t fr)) (j : Nat) : W.cell? ⟨g, j, none⟩ = cs[j]? := by
  simp [World.cell?, h]

theorem blk_frozen {W : World} {g : Nat} {cs : Array Value} {t : TypeId} (h : W.heap[g]? = some (.cells cs t (0, 0))) (j : Nat) : W.frozen? ⟨g, j, none⟩ = false := by
  simp [World.frozen?, h]
theorem blk_lt {W : World} {g : Nat} {o : Obj} (h : W.heap[g]? = some o) : g < W.heap.size := by
  rcases Nat.lt_or_ge g W.heap.size with h1 | h1
  · exact h1
  · simp [Array.getElem?_eq_none h1] at h
theorem set_blk {W : World} {g : Nat} {cs : Array Value} {t : TypeId} (h : W.heap[g]? = some (.cells cs t (0, 0))) (j : Nat) (u : Value) : (W.setCell ⟨g, j, none⟩ u).heap[g]? = some (.cells (cs.setIfInBounds j u) t (0, 0)) := by
  simp [World.setCell, Array.getElem?_modify, h]

set_option maxHeartbeats 400000 in
set_option maxRecDepth 100000 in
theorem token_any (g B : Nat) (s : ByteArray) (out : List Tok) (w : World) (kind n : Int) (t : ByteArray) (hS : Scan w g B s out) (hn0 : 0 ≤ n) (hn : n ≤ s.size) (ho : out.length < 4000) :
    Calls Tryd.prog 47 #[.pointer (some ⟨g, 0, none⟩), .int .i64 kind, .string t, .int .i64 n] w fun e w' => e = .returned (.bool true) ∧ Scan w' g B (s.extract n.toNat s.size) (out ++ [(kind, t)]) ∧ Below B w w' := by
  obtain ⟨v, hb, hown, hBg, hs, ho2⟩ := hS
  have hc1 : w.cell? ⟨g, 1, none⟩ = some v := by rw [blk_cell hb 1]; rfl
  have hne := Scan.ne hb hown
  obtain ⟨i0, hi, hz0, hz1, hz2⟩ := info_parts info_tok
  have hgl := blk_lt hb
  have hbase := Lib.hid (own_base hown)
  have HB := Lib.hid hb
  clear hb
  go_enter Tryd.func47, Tryd.ntmps47
  go_wp2_with (at_builtin; refine wpList_append_own _ rfl _ _ 26 rfl B 48 i0 (.agg #[.int .i64 0, .string ⟨#[]⟩]) 2 24 Tryd.underlying26 hi hz0 hz1 hz2 rfl (by decide) _ _ _ rfl (hown.alloc _) ⟨w.heap.size, 0, none⟩ 1 1 [.int .i64 kind, .string t] rfl rfl ?c1 ?c2 ?c3 ?c4 ?c5 ?_)
  case c1 =>
    intro j u hj
    match j, hj with
    | 0, hj => simp at hj; subst hj; simp [Addr.add]
    | 1, hj => simp at hj; subst hj; simp [Addr.add]
  case c2 => intro u hu; simp at hu; rcases hu with rfl | rfl <;> rfl
  case c3 => unfold maxLen; omega
  case c4 => omega
  case c5 => simp; omega
  intro v' w1 hown' hgrow _
  obtain ⟨A', c', rfl⟩ := own_slice hown'
  have hb1 : w1.heap[g]? = some (.cells #[.string s, v] 52 (0, 0)) := by
    rw [hgrow.block g (by simp; omega) hne, Below.heap_alloc _ _ _ hgl]; exact HB.out
  have hne' := own_ne hown' hb1 (by decide)
  have hc0 : w1.cell? ⟨g, 0, none⟩ = some (.string s) := by rw [blk_cell hb1 0]; rfl
  have hc1' : w1.cell? ⟨g, 1, none⟩ = some v := by rw [blk_cell hb1 1]; rfl
  have hf0 := blk_frozen hb1 0
  have hf1 := blk_frozen hb1 1
  have HB1 := Lib.hid hb1
  have HO := Lib.hid hown'
  have HG := Lib.hid hgrow
  have HN := Lib.hid hne'
  clear hb1 hown' hgrow hne' hown hne hc1
  go_wp2
  go_ret
  refine ⟨rfl, ⟨.slice A' (out.length + 1) c', ?_, ?_, hBg, ?_, ?_⟩, ?_⟩
  · have h2 := set_blk (set_blk HB1.out 1 (.slice A' (out.length + 1) c')) 0 (.string (s.extract n.toNat s.size))
    exact h2
  · rw [cellsOf_snoc]
    simp only [List.length_append, List.length_singleton]
    exact own_setCell (own_setCell HO.out HN.out _) HN.out _
  · simp; omega
  · simp; omega
  · exact (((((Below.refl B w).alloc (by omega) _).grown HG.out (by simp; omega) (fun k hk => hbase.out k hk)).setCell hBg _).setCell hBg _)
end Go.Proofs.YtpgoemlnjocmhaaDoor.Lex
