/-
  A part of the proof of LexTokens (whatever the input, the law returns true and the input reads as it did): languages. Conditions stand at each theorem.
-/
import Derived.Test.YtpgoemlnjocmhaaDoorLexD
import Derived.Laws.EntriesVeiled
namespace Go.Proofs.YtpgoemlnjocmhaaDoor.Lex
open Go.RowKit Go.Proofs.YtpgoemlnjocmhaaDoorW.PrintWords
set_option linter.unusedVariables false
set_option linter.unusedSimpArgs false

theorem quiet_eq {P : Program} {f : FuncId} {al : Array Value} {w : World} {n : Nat} {v : Value}
    (h : Calls P f al (w.drewN n) fun e w' => e = .returned v ∧ w.drewN n = w') : Calls P f al (w.drewN n) fun e w'' => e = .returned v ∧ ∃ m, w'' = w.drewN m :=
  h.mono fun _ _ ⟨he, hm⟩ => ⟨he, n, hm.symm⟩
theorem Scan.drewN {W : World} {g B : Nat} {s : ByteArray} {out : List Tok} (h : Scan W g B s out) (n : Nat) : Scan (W.drewN n) g B s out := h
theorem Scan.alloc {W : World} {g B : Nat} {s : ByteArray} {out : List Tok} (h : Scan W g B s out) (o : Obj) : Scan (W.alloc o) g B s out := by
  obtain ⟨v, hb, ho, h1, h2, h3⟩ := h
  exact ⟨v, by rw [Below.heap_alloc _ _ _ (blk_lt hb)]; exact hb, ho.alloc _, h1, h2, h3⟩
theorem Scan.lt {W : World} {g B : Nat} {s : ByteArray} {out : List Tok} (h : Scan W g B s out) : g < W.heap.size := by
  obtain ⟨v, hb, _⟩ := h
  exact blk_lt hb
theorem Scan.ge {W : World} {g B : Nat} {s : ByteArray} {out : List Tok} (h : Scan W g B s out) : B ≤ g := by
  obtain ⟨v, hb, _, h, _⟩ := h
  exact h

theorem bel_drewN {B : Nat} {a w : World} (h : Below B a w) (n : Nat) : Below B a (w.drewN n) := ⟨h.os, h.tape, h.output, h.size, h.block⟩
theorem Scan.undrewN {W : World} {g B : Nat} {s : ByteArray} {out : List Tok} {n : Nat} (h : Scan (W.drewN n) g B s out) : Scan W g B s out := h
/-- A TLang. -/
def langT (s : ByteArray) : Option (Int × ByteArray × Nat) :=
  if bt s 0 = 64 ∧ lowB (bt s 1) = true then some (6, s.extract 1 (1 + cnt lowdB s 1), 1 + cnt lowdB s 1) else none
set_option maxHeartbeats 1600000 in
set_option maxRecDepth 100000 in
theorem language_any (g B : Nat) (s : ByteArray) (out : List Tok) (w : World) (hS : Scan w g B s out) (ho : out.length < 4000) :
    Calls Tryd.prog 24 #[.pointer (some ⟨g, 0, none⟩)] w (Res (langT s) w g B s out) := by
  have hs := hS.sz
  have hgl := hS.lt
  have hBg := hS.ge
  have hle := cnt_le lowdB s 1
  have hlen : lowB (bt s 1) = true → 1 < s.size := fun h => bt_lt' (i := 1) h (by decide)
  have hS1 := hS.alloc (.cells #[.func (.func 51) #[] #[]] 69 (0, 0))
  have hc1 := hS1.cell
  have hcf : (w.alloc (.cells #[.func (.func 51) #[] #[]] 69 (0, 0))).cell? ⟨w.heap.size, 0, none⟩ = some (.func (.func 51) #[] #[]) := by simp
  have hb1 : Below B w (w.alloc (.cells #[.func (.func 51) #[] #[]] 69 (0, 0))) := (Below.refl B w).alloc (by omega) _
  have hrow : ∀ k, Calls Tryd.prog 42 #[.pointer (some ⟨g, 0, none⟩), .int .i64 1, .func (.func 52) #[] #[.pointer (some ⟨w.heap.size, 0, none⟩)]] ((w.alloc (.cells #[.func (.func 51) #[] #[]] 69 (0, 0))).drewN k) fun e w' => e = .returned (.int .i64 (cnt lowdB s 1)) ∧ (w.alloc (.cells #[.func (.func 51) #[] #[]] 69 (0, 0))).drewN k = w' :=
    fun k => row_any g s _ 1 52 #[.pointer (some ⟨w.heap.size, 0, none⟩)] lowdB hc1 hs (by omega) (by omega) cf_language2 (fun c h0 h1 => language2_any c w.heap.size _ hcf)
  have hat0 : ∀ k, Calls Tryd.prog 46 #[.pointer (some ⟨g, 0, none⟩), .int .i64 0] ((w.alloc (.cells #[.func (.func 51) #[] #[]] 69 (0, 0))).drewN k) fun e w' => e = .returned (.int .i32 (bt s 0)) ∧ (w.alloc (.cells #[.func (.func 51) #[] #[]] 69 (0, 0))).drewN k = w' := fun k => at_any g s _ 0 hc1 hs (by omega)
  have hat1 : ∀ k, Calls Tryd.prog 46 #[.pointer (some ⟨g, 0, none⟩), .int .i64 1] ((w.alloc (.cells #[.func (.func 51) #[] #[]] 69 (0, 0))).drewN k) fun e w' => e = .returned (.int .i32 (bt s 1)) ∧ (w.alloc (.cells #[.func (.func 51) #[] #[]] 69 (0, 0))).drewN k = w' := fun k => at_any g s _ 1 hc1 hs (by omega)
  have hlow := fun W => language1_any (bt s 1) W
  unfold langT
  generalize cnt lowdB s 1 = n at *
  have HR := Lib.hid hrow
  have HS := Lib.hid hS1
  have H1 := Lib.hid hat1
  have HB := Lib.hid hb1
  have HCF := Lib.hid hcf
  have HC1 := Lib.hid hc1
  clear hrow hS hS1 hat1 hb1
  by_cases e0 : bt s 0 = 64
  · rw [e0] at hat0
    have H0 := Lib.hid hat0
    cases e1 : lowB (bt s 1) with
    | true =>
      rw [if_pos ⟨e0, rfl⟩]
      rw [e1] at hlow
      have HL := Lib.hid hlow
      have hl := hlen e1
      have HT := Lib.hid (fun k => tok' g B s out _ 6 (1 + n) (1 + n) (s.extract 1 (1 + n)) (HS.out.drewN k) ho rfl (by omega))
      clear e1 hlow hat0 e0 hlen
      go_enter Tryd.func24, Tryd.ntmps24
      go_wp2
      go_quiet ((first | (with_reducible exact quiet_eq (H0.out _)) | (with_reducible exact quiet_eq (H1.out _)) | (with_reducible exact quiet_eq (HL.out _))))
      go_wp2_with (first | ((with_reducible refine (HR.out _).mono ?_); rintro e w' ⟨rfl, rfl⟩) | ((with_reducible refine (HT.out _).mono ?_); rintro e w' ⟨rfl, h2, h3⟩))
      go_ret
      exact res_tok h2 ((bel_drewN HB.out _).trans h3)
    | false =>
      rw [if_neg (fun h => absurd h.2 (by simp))]
      rw [e1] at hlow
      have HL := Lib.hid hlow
      clear e1 hlow hat0 e0 hlen
      go_enter Tryd.func24, Tryd.ntmps24
      go_wp2
      go_quiet ((first | (with_reducible exact quiet_eq (H0.out _)) | (with_reducible exact quiet_eq (H1.out _)) | (with_reducible exact quiet_eq (HL.out _))))
      go_wp2
      go_ret
      exact ⟨rfl, HS.out.drewN _, bel_drewN HB.out _⟩
  · rw [if_neg (fun h => e0 h.1)]
    have b0 : (bt s 0 != 64) = true := by rw [bne_iff_ne]; exact e0
    have H0 := Lib.hid hat0
    clear e0 hat0 hlow hlen
    go_enter Tryd.func24, Tryd.ntmps24
    go_wp2
    go_quiet ((first | (with_reducible exact quiet_eq (H0.out _)) | (with_reducible exact quiet_eq (H1.out _))))
    go_wp2
    go_ret
    exact ⟨rfl, HS.out.drewN _, bel_drewN HB.out _⟩
end Go.Proofs.YtpgoemlnjocmhaaDoor.Lex
