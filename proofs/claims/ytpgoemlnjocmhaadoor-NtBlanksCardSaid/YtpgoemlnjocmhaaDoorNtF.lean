/-
  A part of the proof of NtBlanks (whatever the input, the law returns true and the input reads as it did): fine triples fit; a line's triple is read back. Conditions stand at each theorem.
-/
import Derived.Test.YtpgoemlnjocmhaaDoorNtE
namespace Go.Proofs.YtpgoemlnjocmhaaDoor.Nt
open Go.RowKit Go.Proofs.YtpgoemlnjocmhaaDoor.Lex
open Go.Proofs.YtpgoemlnjocmhaaDoorW.PrintWords hiding blk_lt blk_cell blk_frozen
set_option linter.unusedVariables false
set_option linter.unusedSimpArgs false

theorem keep_cells {wr w1 : World} {o : Obj} {n : Nat} {u v : Value} (hb : Below (wr.alloc o).heap.size (wr.alloc o) w1) (hn : n < wr.heap.size) (h0 : wr.cell? ⟨n, 0, none⟩ = some u) (h4 : wr.cell? ⟨n, 4, none⟩ = some v) :
    n < w1.heap.size ∧ w1.cell? ⟨n, 0, none⟩ = some u ∧ w1.cell? ⟨n, 4, none⟩ = some v := by
  have hs := hb.size
  have hz : (wr.alloc o).heap.size = wr.heap.size + 1 := by simp
  refine ⟨by omega, ?_, ?_⟩
  · rw [hb.cell (p := ⟨n, 0, none⟩) (by show n < _; omega), World.cell?_alloc_past (w := wr) o n 0 hn]; exact h0
  · rw [hb.cell (p := ⟨n, 4, none⟩) (by show n < _; omega), World.cell?_alloc_past (w := wr) o n 4 hn]; exact h4
set_option maxHeartbeats 1600000 in
set_option maxRecDepth 100000 in
theorem fits_ok (a b c : T) (w : World) (ha : a.fine) (hb : b.fine) (hc : c.fine) (h3 : a.k ≠ 3) (h1 : b.k = 1) :
    Calls Tryd.prog 75 #[tri a b c] w fun e w' => e = .returned (.int .i64 0) ∧ Below w.heap.size w w' := by
  have CA := Lib.hid (fun W => check_ok a W ha)
  have CB := Lib.hid (fun W => check_ok b W hb)
  have CC := Lib.hid (fun W => check_ok c W hc)
  clear ha hb hc
  rcases a with ⟨ak, sa, la, ta⟩
  rcases b with ⟨bk, sb, lb, tb⟩
  rcases c with ⟨ck, sc, lc, tc⟩
  simp only at h3 h1
  unfold T.val tval at CA CB CC
  unfold tri
  have b3 : (ak == 3) = false := by simpa using h3
  subst h1
  clear h3
  simp only at CA CB CC ⊢
  generalize (⟨sa.toArray⟩ : ByteArray) = a1 at *
  generalize (⟨la.toArray⟩ : ByteArray) = a2 at *
  generalize (⟨ta.toArray⟩ : ByteArray) = a3 at *
  generalize (⟨sb.toArray⟩ : ByteArray) = b1 at *
  generalize (⟨lb.toArray⟩ : ByteArray) = b2 at *
  generalize (⟨tb.toArray⟩ : ByteArray) = b4 at *
  generalize (⟨sc.toArray⟩ : ByteArray) = c1 at *
  generalize (⟨lc.toArray⟩ : ByteArray) = c2 at *
  generalize (⟨tc.toArray⟩ : ByteArray) = c3 at *
  go_enter Tryd.func75, Tryd.ntmps75
  go_wp2
  go_loopw [7] (fun v wr => ∃ i : Int, v = .int .i64 i ∧ 0 ≤ i ∧ i ≤ 3 ∧ Hid (Below w.heap.size w wr) ∧ Hid (w.heap.size < wr.heap.size ∧ wr.cell? ⟨w.heap.size, 0, none⟩ = some (.int .i64 ak) ∧ wr.cell? ⟨w.heap.size, 4, none⟩ = some (.int .i64 1))) (fun v _ => 3 - (intOf v).toNat)
  case atStart => exact ⟨0, rfl, by omega, by omega, Lib.hid ((Below.refl _ _).alloc (Nat.le_refl _) _), Lib.hid ⟨by simp, by simp, by simp⟩⟩
  case round =>
    obtain ⟨i, rfl, hi0, hi, HB, HC⟩ := hrel
    have hw := HC.out.1
    have hc0 := HC.out.2.1
    have hc4 := HC.out.2.2
    have h4 : i = 0 ∨ i = 1 ∨ i = 2 ∨ i = 3 := by omega
    rcases h4 with rfl | rfl | rfl | rfl
    · have t0 := tri_at0
      go_wp2_with fail
      refine (CA.out _).mono ?_
      rintro e w1 ⟨rfl, hb1⟩
      have HB1 := Lib.hid ((HB.out.alloc (by omega) _).trans (hb1.mono (by simp; omega)))
      have HC1 := Lib.hid (keep_cells hb1 hw hc0 hc4)
      clear hb1 t0
      go_wp2
      go_roundw
      case rel => exact ⟨1, by go_num, by omega, by omega, HB1, HC1⟩
      case measure => simp [intOf]
    · have t0 := tri_at1
      go_wp2_with fail
      refine (CB.out _).mono ?_
      rintro e w1 ⟨rfl, hb1⟩
      have HB1 := Lib.hid ((HB.out.alloc (by omega) _).trans (hb1.mono (by simp; omega)))
      have HC1 := Lib.hid (keep_cells hb1 hw hc0 hc4)
      clear hb1 t0
      go_wp2
      go_roundw
      case rel => exact ⟨2, by go_num, by omega, by omega, HB1, HC1⟩
      case measure => simp [intOf]
    · have t0 := tri_at2
      go_wp2_with fail
      refine (CC.out _).mono ?_
      rintro e w1 ⟨rfl, hb1⟩
      have HB1 := Lib.hid ((HB.out.alloc (by omega) _).trans (hb1.mono (by simp; omega)))
      have HC1 := Lib.hid (keep_cells hb1 hw hc0 hc4)
      clear hb1 t0
      go_wp2
      go_roundw
      case rel => exact ⟨3, by go_num, by omega, by omega, HB1, HC1⟩
      case measure => simp [intOf]
    · go_wp2
      go_ret
      exact ⟨by simp, HB.out⟩
end Go.Proofs.YtpgoemlnjocmhaaDoor.Nt
