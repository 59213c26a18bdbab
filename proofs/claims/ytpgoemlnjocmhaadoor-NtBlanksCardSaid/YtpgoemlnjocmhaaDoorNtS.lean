/-
  A part of the proof of NtBlanks (whatever the input, the law returns true and the input reads as it did): the law walked. Conditions stand at each theorem.
-/
import Derived.Test.YtpgoemlnjocmhaaDoorNtR
import Derived.Deep.CutBlock
namespace Go.Proofs.YtpgoemlnjocmhaaDoor.Nt
open Go.RowKit Go.Proofs.YtpgoemlnjocmhaaDoor.Lex
open Go.Proofs.YtpgoemlnjocmhaaDoorW.PrintWords hiding blk_lt blk_cell blk_frozen
set_option linter.unusedVariables false
set_option linter.unusedSimpArgs false

set_option maxHeartbeats 4000000 in
set_option maxRecDepth 100000 in
theorem same9_any (A A' : Option Addr) (c c' : Nat) (l : List T3) (w : World) (hl : l.length ≤ 100000) (hv : TriRow w (.slice A l.length c) l) (hu : TriRow w (.slice A' l.length c') l) :
    Calls Tryd.prog 17 #[.slice A l.length c, .slice A' l.length c'] w fun e w' => e = .returned (.bool true) ∧ Below w.heap.size w w' := by
  have HV := Lib.hid hv
  have HU := Lib.hid hu
  clear hv hu
  go_enter Tryd.func17, Tryd.ntmps17
  go_wp2
  go_loopw [5] (fun v5 wr => ∃ (k : Nat), v5 = .int .i64 k ∧ k ≤ l.length ∧ (∃ nq, wr = w.drewN nq)) (fun v5 _ => l.length - (intOf v5).toNat)
  case atStart => exact ⟨0, rfl, by omega, 0, rfl⟩
  case round =>
    obtain ⟨k, rfl, hk, nq, rfl⟩ := hrel
    by_cases h1 : k < l.length
    · obtain ⟨t, ht⟩ : ∃ t, l[k]? = some t := ⟨l[k], by simp [h1]⟩
      obtain ⟨x, rfl, x0, x1, x2, x3, x4, x5, x6, x7, x8, x9, x10, x11⟩ := HV.out.at12 k t ht
      obtain ⟨y, rfl, y0, y1, y2, y3, y4, y5, y6, y7, y8, y9, y10, y11⟩ := HU.out.at12 k t ht
      have he := equalIn_T3 t t
      have hg : Tryd.prog.eqGuardType Tryd.prog.depth 42 = false := by kernel_rfl
      have hr : eq3 t t = true := by rw [eq3_iff]; simp
      rw [hr] at he
      have q1 : (0 : Int) ≤ (k : Int) := by omega
      have q2 : (k : Int) < (l.length : Int) := by omega
      clear ht hr
      go_wp2_with fail
      go_quiet (fail)
      go_wp2
      go_roundw
      case rel => exact ⟨k + 1, by go_num, by omega, _, by first | rfl | rw [World.drewN_drewN]⟩
      case measure => simp [intOf]; omega
    · go_wp2
      go_ret
      exact ⟨rfl, bel_dn (Below.refl _ _) _⟩
set_option maxHeartbeats 4000000 in
set_option maxRecDepth 100000 in
theorem known9_any (m : Int) (w : World) (hm : w.cell? ⟨0, 0, none⟩ = some (.int .i64 m)) :
    Calls Tryd.prog 10 #[] w fun e w' => e = .returned (.bool true) ∧ Below w.heap.size w w' := by
  have h1 := doc_any [] m w (fun r h => by cases h) (by decide) hm
  have H1 := Lib.hid (show Calls _ _ #[.string ⟨#[]⟩] w _ from h1)
  have HM := Lib.hid hm
  clear h1 hm
  go_enter Tryd.func10, Tryd.ntmps10
  go_wp2_with fail
  refine H1.out.mono ?_
  rintro e w1 ⟨v, rfl, ho, hb⟩
  obtain ⟨A1, c1, rfl⟩ := own_slice ho
  have HB1 := Lib.hid hb
  have H2 := Lib.hid (what_any m w1 (by rw [hb.cell (p := ⟨0, 0, none⟩) (World.block_lt_of_cell? _ _ HM.out)]; exact HM.out))
  clear ho hb
  go_wp2_with fail
  refine H2.out.mono ?_
  rintro e w2 ⟨rfl, hb2⟩
  have HB2 := Lib.hid (HB1.out.trans (hb2.mono HB1.out.size))
  clear hb2
  go_wp2
  go_ret
  exact ⟨rfl, HB2.out⟩
end Go.Proofs.YtpgoemlnjocmhaaDoor.Nt
