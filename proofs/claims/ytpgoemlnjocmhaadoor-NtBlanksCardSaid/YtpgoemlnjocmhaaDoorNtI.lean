/-
  A part of the proof of NtBlanks (whatever the input, the law returns true and the input reads as it did): nt.Parse, row by row. Conditions stand at each theorem.
-/
import Derived.Test.YtpgoemlnjocmhaaDoorNtH
namespace Go.Proofs.YtpgoemlnjocmhaaDoor.Nt
open Go.RowKit Go.Proofs.YtpgoemlnjocmhaaDoor.Lex
open Go.Proofs.YtpgoemlnjocmhaaDoorW.PrintWords hiding blk_lt blk_cell blk_frozen
set_option linter.unusedVariables false
set_option linter.unusedSimpArgs false

/-- A row as nt takes it: without a carriage return, where it is not the last. -/
def rowAt (P : List ByteArray) (i : Nat) : ByteArray := if i + 1 < P.length then ⟨(Lib.trimSuffix (P.getD i ByteArray.empty).data.toList [13]).toArray⟩ else P.getD i ByteArray.empty
def accT (outs : List (Option T3)) (i : Nat) : List T3 := (outs.take i).filterMap id
theorem accT_none {outs : List (Option T3)} {i : Nat} (h : outs.getD i none = none) : accT outs (i + 1) = accT outs i := by
  unfold accT
  rw [List.take_add_one, List.filterMap_append]
  rcases hx : outs[i]? with _ | o
  · simp
  · have : o = none := by rw [List.getD_eq_getElem?_getD, hx] at h; exact h
    subst this; simp
theorem accT_some {outs : List (Option T3)} {i : Nat} {t : T3} (h : outs.getD i none = some t) : accT outs (i + 1) = accT outs i ++ [t] := by
  unfold accT
  rw [List.take_add_one, List.filterMap_append]
  rcases hx : outs[i]? with _ | o
  · rw [List.getD_eq_getElem?_getD, hx] at h; cases h
  · have : o = some t := by rw [List.getD_eq_getElem?_getD, hx] at h; exact h
    subst this; simp
theorem accT_len (outs : List (Option T3)) (i : Nat) : (accT outs i).length ≤ i := by
  unfold accT
  have h1 := List.length_filterMap_le id (outs.take i)
  have h2 := List.length_take_le i outs
  omega
theorem Line.new (W : World) (q : ByteArray) : Line (W.alloc (.cells #[.string q, .int .i64 0] 64 (0, 0))) W.heap.size q 0 := by
  unfold Line; show (W.heap.push _)[W.heap.size]? = some _; simp
/-- What nt.Parse tells. -/
def ParseIs (n k : Nat) (l : List T3) (w : World) (e : Ending) (w' : World) : Prop :=
  (k = n → ∃ v, e = .returned (.tuple #[v, .int .i64 0, .int .i64 0]) ∧ w'.ownsRow w.heap.size 42 12 v l.length (cells3 l)) ∧
  (k < n → e = .returned (.tuple #[.slice none 0 0, .int .i64 ((k : Int) + 1), .int .i64 6])) ∧ Below w.heap.size w w'

set_option maxHeartbeats 4000000 in
set_option maxRecDepth 100000 in
theorem parse_any (s : ByteArray) (m : Int) (w : World) (hs : s.size ≤ 16000) (hm : w.cell? ⟨0, 0, none⟩ = some (.int .i64 m)) (P : List ByteArray) (hP : Lib.splitB ⟨#[10]⟩ 0 (Lib.countB s ⟨#[10]⟩) s = P) (hn : Lib.countB s ⟨#[10]⟩ + 1 = P.length) (hn2 : P.length ≤ 16001)
    (outs : List (Option T3)) (k : Nat) (hk : k ≤ P.length) (hok : ∀ i, i < k → RowIs (rowAt P i) (outs.getD i none)) (hbad : k < P.length → RowBad (rowAt P k)) (hsz : ∀ i, (P.getD i ByteArray.empty).size ≤ 16000) :
    Calls Tryd.prog 16 #[.string s] w (ParseIs P.length k (accT outs k) w) := by
  have hsp := Tryd.strings_Split s ⟨#[10]⟩ m w (by omega) hm (by decide)
  rw [hP, hn] at hsp
  obtain ⟨i0, hi, hz0, hz1, hz2⟩ := info_parts info_tri
  have hpos : 0 < w.heap.size := by
    have := World.block_lt_of_cell? _ _ hm
    exact Nat.lt_of_le_of_lt (Nat.zero_le _) this
  have HSP := Lib.hid hsp
  have HX := Lib.hid hm
  have HOK := Lib.hid hok
  have HBAD := Lib.hid hbad
  have HSZ := Lib.hid hsz
  have h16 : ¬ (16000 : Int) < s.size := by omega
  obtain ⟨n, hnn⟩ : ∃ n, n = P.length := ⟨_, rfl⟩
  have HNN := Lib.hid hnn
  rw [← hnn] at HSP hk hn2 ⊢
  clear hsp hm hok hbad hsz hP hn hnn
  go_enter Tryd.func16, Tryd.ntmps16
  go_wp2_with ((with_reducible refine HSP.out.mono ?_); rintro e w' ⟨rfl, rfl⟩)
  have HB0 := Lib.hid (show (w.alloc (.cells (P.map Value.string).toArray 9)).heap[w.heap.size]? = some (.cells (P.map Value.string).toArray 9 (0, 0)) by show (w.heap.push _)[w.heap.size]? = some _; simp)
  go_loopw [2, 18] (fun v2 v18 wr => ∃ (i : Nat), v18 = .int .i64 i ∧ i ≤ k ∧ Hid (wr.ownsRow w.heap.size 42 12 v2 (accT outs i).length (cells3 (accT outs i))) ∧ Hid (Below w.heap.size w wr) ∧ Hid (wr.heap[w.heap.size]? = some (.cells (P.map Value.string).toArray 9 (0, 0)))) (fun _ v _ => n - (intOf v).toNat)
  case atStart => exact ⟨0, rfl, by omega, Lib.hid (own_nil _ _ _ _), Lib.hid ((Below.refl _ _).alloc (Nat.le_refl _) _), HB0⟩
  case round =>
    obtain ⟨i, rfl, hik, HO, HB, HR⟩ := hrel
    have hal := accT_len outs i
    have hlt := blk_lt HR.out
    have hcm : wr.cell? ⟨0, 0, none⟩ = some (.int .i64 m) := by rw [HB.out.cell (p := ⟨0, 0, none⟩) hpos]; exact HX.out
    have HCM := Lib.hid hcm
    clear hcm
    by_cases hin : i < n
    · have hrow : wr.cell? ⟨w.heap.size, i, none⟩ = some (.string (P.getD i ByteArray.empty)) := by
        have hip : i < P.length := by have := HNN.out; omega
        rw [blk_cell HR.out i]
        simp [hip]
      have hzi := HSZ.out i
      have hri : rowAt P i = if i + 1 < P.length then ⟨(Lib.trimSuffix (P.getD i ByteArray.empty).data.toList [13]).toArray⟩ else P.getD i ByteArray.empty := rfl
      rw [← HNN.out] at hri
      generalize P.getD i ByteArray.empty = p at *
      by_cases hl : i + 1 < n
      · rw [if_pos hl] at hri
        have hti : (i : Int) < (n : Int) - 1 := by omega
        have hts : ∀ W, Calls Tryd.prog 36 #[.string p, .string ⟨#[13]⟩] W fun e w' => e = .returned (.string ⟨(Lib.trimSuffix p.data.toList [13]).toArray⟩) ∧ W = w' := fun W => (Tryd.strings_TrimSuffix p ⟨#[13]⟩ W (by omega)).mono (fun e w' h => ⟨h.1, h.2.symm⟩)
        rw [← hri] at hts
        have HT := Lib.hid hts
        obtain ⟨q, hqq⟩ : ∃ q, rowAt P i = q := ⟨_, rfl⟩
        rw [hqq] at HT
        clear hri hts
        by_cases hik2 : i < k
        · have hq := HOK.out i hik2
          rw [hqq] at hq
          clear hqq
          rcases ho : outs.getD i none with _ | t
          · rw [ho] at hq
            replace hq : RowIs q none := hq
            have HC := Lib.hid (row_none wr.heap.size q m _ (Line.new wr q) hq)
            clear hq
            go_wp2_with ((with_reducible refine (HT.out _).mono ?_); rintro e w' ⟨rfl, rfl⟩)
            refine HC.out.mono ?_
            rintro e w1 ⟨rfl, ⟨s1, hl1⟩, hm1⟩
            have hc1 := hl1.cell1
            have hg1 := hl1.lt
            have HO1 := Lib.hid (own_mut (Line.new wr q) (by decide) (HO.out.alloc _) hm1)
            have HB1 := Lib.hid ((HB.out.alloc (by omega) _).trans (hm1.below (B := w.heap.size) (by omega) (by simp; omega)))
            have HR1 := Lib.hid (hm1.blk (k := w.heap.size) (by rw [Below.heap_alloc _ _ _ hlt]; exact HR.out) (by omega))
            have HL1 := Lib.hid hl1
            clear hl1 hm1
            go_wp2
            go_roundw
            case rel => exact ⟨i + 1, by go_num, by omega, by rw [accT_none ho]; exact Lib.hid (HO1.out.alloc _), Lib.hid (HB1.out.alloc (by omega) _), Lib.hid (by rw [Below.heap_alloc _ _ _ (by omega)]; exact HR1.out)⟩
            case measure => simp [intOf]; omega
          · rw [ho] at hq
            have HC := Lib.hid (row_some wr.heap.size q m _ t (Line.new wr q) (by omega) (by rw [World.cell?_alloc_past (w := wr) _ 0 0 (by omega)]; exact HCM.out) hq)
            clear hq
            go_wp2_with ((with_reducible refine (HT.out _).mono ?_); rintro e w' ⟨rfl, rfl⟩)
            refine HC.out.mono ?_
            rintro e w1 ⟨rfl, ⟨s1, hl1⟩, hm1⟩
            have hc1 := hl1.cell1
            have hg1 := hl1.lt
            have HO1 := Lib.hid (own_mut (Line.new wr q) (by decide) (HO.out.alloc _) hm1)
            have HB1 := Lib.hid ((HB.out.alloc (by omega) _).trans (hm1.below (B := w.heap.size) (by omega) (by simp; omega)))
            have HR1 := Lib.hid (hm1.blk (k := w.heap.size) (by rw [Below.heap_alloc _ _ _ hlt]; exact HR.out) (by omega))
            have HL1 := Lib.hid hl1
            clear hl1 hm1
            go_wp2_with (at_builtin; refine wpList_append_own _ rfl _ _ 34 rfl w.heap.size 42 i0 (.agg zs) 12 168 Tryd.underlying34 hi hz0 hz1 hz2 rfl (by decide) _ _ _ rfl ((HO1.out.alloc _).alloc _) ⟨w1.heap.size + 1, 0, none⟩ 1 1 (triL t) rfl rfl ?c1 ?c2 ?c3 ?c4 ?c5 ?_)
            case c1 =>
              intro j u hj
              have ha : (⟨w1.heap.size + 1, 0, none⟩ : Addr).add j = ⟨w1.heap.size + 1, j, none⟩ := by unfold Addr.add; split <;> simp_all
              rw [ha, World.cell?_alloc_at _ _ _ _ (by simp)]
              simpa [triL, triC] using hj
            case c2 => exact fun u hu => cells3_one [t] u (by simpa [cells3] using hu)
            case c3 => unfold maxLen; omega
            case c4 => omega
            case c5 => simp; omega
            intro v' w2 hown' hgrow _
            obtain ⟨A', c', rfl⟩ := own_slice hown'
            have HO2 := Lib.hid hown'
            have HB2 := Lib.hid ((((HB1.out.alloc (by omega) (.cells (triC t.a t.b t.c) 42 (0, 0))).alloc (by simp; omega) (.cells (triC t.a t.b t.c) 42 (0, 0))).grown hgrow (by simp; omega) (fun k hk => own_base HO1.out k hk)))
            have hne := own_ne ((HO1.out.alloc (.cells (triC t.a t.b t.c) 42 (0, 0))).alloc (.cells (triC t.a t.b t.c) 42 (0, 0))) (show ((w1.alloc _).alloc _).heap[w.heap.size]? = some (.cells (P.map Value.string).toArray 9 (0, 0)) by rw [Below.heap_alloc _ _ _ (by simp; omega), Below.heap_alloc _ _ _ (by omega)]; exact HR1.out) (by decide)
            have HR2 := Lib.hid (show w2.heap[w.heap.size]? = some (.cells (P.map Value.string).toArray 9 (0, 0)) by rw [hgrow.block w.heap.size (by simp; omega) hne, Below.heap_alloc _ _ _ (by simp; omega), Below.heap_alloc _ _ _ (by omega)]; exact HR1.out)
            clear hown' hgrow hne
            go_wp2
            go_roundw
            case rel => exact ⟨i + 1, by go_num, by omega, by rw [accT_some ho, cells3_snoc]; exact Lib.hid (by have := HO2.out; simpa using this), HB2, HR2⟩
            case measure => simp [intOf]; omega
        · have hke : i = k := by omega
          have hq := HBAD.out (by have := HNN.out; omega)
          rw [← hke, hqq] at hq
          have HKE := Lib.hid hke
          clear hke
          clear hqq
          have HC := Lib.hid (row_bad wr.heap.size q _ (Line.new wr q) hq)
          clear hq
          go_wp2_with ((with_reducible refine (HT.out _).mono ?_); rintro e w' ⟨rfl, rfl⟩)
          refine HC.out.mono ?_
          rintro e w1 ⟨rfl, ⟨s1, hl1⟩, hm1⟩
          have hc1 := hl1.cell1
          have hg1 := hl1.lt
          have HO1 := Lib.hid (own_mut (Line.new wr q) (by decide) (HO.out.alloc _) hm1)
          have HB1 := Lib.hid ((HB.out.alloc (by omega) _).trans (hm1.below (B := w.heap.size) (by omega) (by simp; omega)))
          have HR1 := Lib.hid (hm1.blk (k := w.heap.size) (by rw [Below.heap_alloc _ _ _ hlt]; exact HR.out) (by omega))
          have HL1 := Lib.hid hl1
          clear hl1 hm1
          go_wp2
          go_quiet (fail)
          go_wp2
          refine bodyPost_ret (v := .tuple #[.slice none 0 0, .int .i64 ((i : Int) + 1), .int .i64 6]) (by simp [results, Tryd.results16, go_sem]) rfl ?_
          exact ⟨fun h => absurd h (by have := HKE.out; omega), fun _ => by rw [← HKE.out], by first | exact (HB1.out.alloc (by omega) _).drew | exact bel_drewN (HB1.out.alloc (by omega) _) _ | exact HB1.out.alloc (by omega) _⟩
      · rw [if_neg hl] at hri
        have hti : ¬ (i : Int) < (n : Int) - 1 := by omega
        obtain ⟨q, hqq⟩ : ∃ q, rowAt P i = q := ⟨_, rfl⟩
        obtain rfl : p = q := by rw [← hri, hqq]
        clear hri
        by_cases hik2 : i < k
        · have hq := HOK.out i hik2
          rw [hqq] at hq
          clear hqq
          rcases ho : outs.getD i none with _ | t
          · rw [ho] at hq
            replace hq : RowIs p none := hq
            have HC := Lib.hid (row_none wr.heap.size p m _ (Line.new wr p) hq)
            clear hq
            go_wp2_with fail
            refine HC.out.mono ?_
            rintro e w1 ⟨rfl, ⟨s1, hl1⟩, hm1⟩
            have hc1 := hl1.cell1
            have hg1 := hl1.lt
            have HO1 := Lib.hid (own_mut (Line.new wr p) (by decide) (HO.out.alloc _) hm1)
            have HB1 := Lib.hid ((HB.out.alloc (by omega) _).trans (hm1.below (B := w.heap.size) (by omega) (by simp; omega)))
            have HR1 := Lib.hid (hm1.blk (k := w.heap.size) (by rw [Below.heap_alloc _ _ _ hlt]; exact HR.out) (by omega))
            have HL1 := Lib.hid hl1
            clear hl1 hm1
            go_wp2
            go_roundw
            case rel => exact ⟨i + 1, by go_num, by omega, by rw [accT_none ho]; exact Lib.hid (HO1.out.alloc _), Lib.hid (HB1.out.alloc (by omega) _), Lib.hid (by rw [Below.heap_alloc _ _ _ (by omega)]; exact HR1.out)⟩
            case measure => simp [intOf]; omega
          · rw [ho] at hq
            have HC := Lib.hid (row_some wr.heap.size p m _ t (Line.new wr p) (by omega) (by rw [World.cell?_alloc_past (w := wr) _ 0 0 (by omega)]; exact HCM.out) hq)
            clear hq
            go_wp2_with fail
            refine HC.out.mono ?_
            rintro e w1 ⟨rfl, ⟨s1, hl1⟩, hm1⟩
            have hc1 := hl1.cell1
            have hg1 := hl1.lt
            have HO1 := Lib.hid (own_mut (Line.new wr p) (by decide) (HO.out.alloc _) hm1)
            have HB1 := Lib.hid ((HB.out.alloc (by omega) _).trans (hm1.below (B := w.heap.size) (by omega) (by simp; omega)))
            have HR1 := Lib.hid (hm1.blk (k := w.heap.size) (by rw [Below.heap_alloc _ _ _ hlt]; exact HR.out) (by omega))
            have HL1 := Lib.hid hl1
            clear hl1 hm1
            go_wp2_with (at_builtin; refine wpList_append_own _ rfl _ _ 34 rfl w.heap.size 42 i0 (.agg zs) 12 168 Tryd.underlying34 hi hz0 hz1 hz2 rfl (by decide) _ _ _ rfl ((HO1.out.alloc _).alloc _) ⟨w1.heap.size + 1, 0, none⟩ 1 1 (triL t) rfl rfl ?c1 ?c2 ?c3 ?c4 ?c5 ?_)
            case c1 =>
              intro j u hj
              have ha : (⟨w1.heap.size + 1, 0, none⟩ : Addr).add j = ⟨w1.heap.size + 1, j, none⟩ := by unfold Addr.add; split <;> simp_all
              rw [ha, World.cell?_alloc_at _ _ _ _ (by simp)]
              simpa [triL, triC] using hj
            case c2 => exact fun u hu => cells3_one [t] u (by simpa [cells3] using hu)
            case c3 => unfold maxLen; omega
            case c4 => omega
            case c5 => simp; omega
            intro v' w2 hown' hgrow _
            obtain ⟨A', c', rfl⟩ := own_slice hown'
            have HO2 := Lib.hid hown'
            have HB2 := Lib.hid ((((HB1.out.alloc (by omega) (.cells (triC t.a t.b t.c) 42 (0, 0))).alloc (by simp; omega) (.cells (triC t.a t.b t.c) 42 (0, 0))).grown hgrow (by simp; omega) (fun k hk => own_base HO1.out k hk)))
            have hne := own_ne ((HO1.out.alloc (.cells (triC t.a t.b t.c) 42 (0, 0))).alloc (.cells (triC t.a t.b t.c) 42 (0, 0))) (show ((w1.alloc _).alloc _).heap[w.heap.size]? = some (.cells (P.map Value.string).toArray 9 (0, 0)) by rw [Below.heap_alloc _ _ _ (by simp; omega), Below.heap_alloc _ _ _ (by omega)]; exact HR1.out) (by decide)
            have HR2 := Lib.hid (show w2.heap[w.heap.size]? = some (.cells (P.map Value.string).toArray 9 (0, 0)) by rw [hgrow.block w.heap.size (by simp; omega) hne, Below.heap_alloc _ _ _ (by simp; omega), Below.heap_alloc _ _ _ (by omega)]; exact HR1.out)
            clear hown' hgrow hne
            go_wp2
            go_roundw
            case rel => exact ⟨i + 1, by go_num, by omega, by rw [accT_some ho, cells3_snoc]; exact Lib.hid (by have := HO2.out; simpa using this), HB2, HR2⟩
            case measure => simp [intOf]; omega
        · have hke : i = k := by omega
          have hq := HBAD.out (by have := HNN.out; omega)
          rw [← hke, hqq] at hq
          have HKE := Lib.hid hke
          clear hke
          clear hqq
          have HC := Lib.hid (row_bad wr.heap.size p _ (Line.new wr p) hq)
          clear hq
          go_wp2_with fail
          refine HC.out.mono ?_
          rintro e w1 ⟨rfl, ⟨s1, hl1⟩, hm1⟩
          have hc1 := hl1.cell1
          have hg1 := hl1.lt
          have HO1 := Lib.hid (own_mut (Line.new wr p) (by decide) (HO.out.alloc _) hm1)
          have HB1 := Lib.hid ((HB.out.alloc (by omega) _).trans (hm1.below (B := w.heap.size) (by omega) (by simp; omega)))
          have HR1 := Lib.hid (hm1.blk (k := w.heap.size) (by rw [Below.heap_alloc _ _ _ hlt]; exact HR.out) (by omega))
          have HL1 := Lib.hid hl1
          clear hl1 hm1
          go_wp2
          go_quiet (fail)
          go_wp2
          refine bodyPost_ret (v := .tuple #[.slice none 0 0, .int .i64 ((i : Int) + 1), .int .i64 6]) (by simp [results, Tryd.results16, go_sem]) rfl ?_
          exact ⟨fun h => absurd h (by have := HKE.out; omega), fun _ => by rw [← HKE.out], by first | exact (HB1.out.alloc (by omega) _).drew | exact bel_drewN (HB1.out.alloc (by omega) _) _ | exact HB1.out.alloc (by omega) _⟩
    · obtain rfl : i = n := by omega
      have HC := Lib.hid (clone3_any w.heap.size _ _ _ HO.out (by omega) (by have := HB.out.size; omega))
      go_wp2_with fail
      refine HC.out.mono ?_
      rintro e w1 ⟨v1, rfl, ho1, hb1⟩
      have HO1 := Lib.hid ho1
      have HB1 := Lib.hid hb1
      clear ho1 hb1
      obtain ⟨A', c', rfl⟩ := own_slice HO1.out
      go_wp2
      refine bodyPost_ret (v := .tuple #[.slice A' (accT outs i).length c', .int .i64 0, .int .i64 0]) (by simp [results, Tryd.results16, go_sem]) rfl ?_
      have hkn : k = i := by omega
      subst hkn
      exact ⟨fun _ => ⟨_, rfl, HO1.out⟩, fun h => absurd h (by omega), HB.out.trans HB1.out⟩
end Go.Proofs.YtpgoemlnjocmhaaDoor.Nt
