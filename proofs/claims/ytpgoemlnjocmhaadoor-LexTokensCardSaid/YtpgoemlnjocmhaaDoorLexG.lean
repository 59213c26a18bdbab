/-
  A part of the proof of LexTokens (whatever the input, the law returns true and the input reads as it did): blanks. Conditions stand at each theorem.
-/
import Derived.Test.YtpgoemlnjocmhaaDoorLexF
import Derived.ScopeJumps
import Derived.Shelf.Strings.SlTrimAscii
import Derived.StillTailTactics
import Derived.Deep.RegionWith
namespace Go.Proofs.YtpgoemlnjocmhaaDoor.Lex
open Go.RowKit Go.Proofs.YtpgoemlnjocmhaaDoorW.PrintWords
set_option linter.unusedVariables false
set_option linter.unusedSimpArgs false

theorem Scan.below {W W1 : World} {g B : Nat} {s : ByteArray} {out : List Tok} (h : Scan W g B s out) (hb : Below W.heap.size W W1) : Scan W1 g B s out := by
  obtain ⟨v, hv, ho, h1, h2, h3⟩ := h
  exact ⟨v, (hb.block g (blk_lt hv)).trans hv, pw_own_below ho hb, h1, h2, h3⟩
theorem Scan.set0 {W : World} {g B : Nat} {s t : ByteArray} {out : List Tok} (h : Scan W g B s out) (ht : t.size ≤ 140737488351232) : Scan (W.setCell ⟨g, 0, none⟩ (.string t)) g B t out := by
  obtain ⟨v, hv, ho, h1, h2, h3⟩ := h
  exact ⟨v, set_blk hv 0 _, own_setCell ho (Scan.ne hv ho) _, h1, ht, h3⟩
theorem Scan.free {W : World} {g B : Nat} {s : ByteArray} {out : List Tok} (h : Scan W g B s out) : W.frozen? ⟨g, 0, none⟩ = false := by
  obtain ⟨v, hv, _⟩ := h
  exact blk_frozen hv 0

def wsp : List UInt8 := [32, 9, 10, 13]
def trimB (s : ByteArray) : ByteArray := ⟨(Lib.trimLeftS s.data.toList wsp).toArray⟩
theorem trimB_size (s : ByteArray) : (trimB s).size ≤ s.size := by
  have h := (List.dropWhile_sublist (l := s.data.toList) (fun c => wsp.contains c)).length_le
  show ((s.data.toList.dropWhile (fun c => wsp.contains c)).toArray).size ≤ s.data.size
  rw [List.size_toArray]
  rw [Array.length_toList] at h
  exact h
/-- Past blanks and comments. -/
def blankF : Nat → ByteArray → ByteArray
  | 0, s => s
  | k + 1, s => if Lib.hasPrefix (trimB s).data.toList [35] = true then blankF k ((trimB s).extract (cnt notNlB (trimB s) 0) (trimB s).size) else trimB s

theorem trim_any (s : ByteArray) (w : World) : Calls Tryd.prog 40 #[.string s, .string ⟨#[32, 9, 10, 13]⟩] w fun e w' => e = .returned (.string (trimB s)) ∧ Below w.heap.size w w' :=
  Any.strings_TrimLeft_laid Tryd.lays161 (by kernel_rfl) s ⟨#[32, 9, 10, 13]⟩ w (by decide) (ascii_of_all (by decide))

/-- How much is left: for a measure. -/
def scanLeft (g : Nat) (w : World) : Nat := match w.cell? ⟨g, 0, none⟩ with | some (.string t) => t.size | _ => 0
theorem scanLeft_of {g : Nat} {w : World} {t : ByteArray} (h : w.cell? ⟨g, 0, none⟩ = some (.string t)) : scanLeft g w = t.size := by unfold scanLeft; rw [h]
theorem scanLeft_drew {g : Nat} {w : World} : scanLeft g w.drew = scanLeft g w := rfl
theorem comment_pos {t : ByteArray} (h : Lib.hasPrefix t.data.toList [35] = true) : 0 < cnt notNlB t 0 ∧ 0 < t.size := by
  unfold Lib.hasPrefix at h
  rcases hl : t.data.toList with _ | ⟨c, l⟩
  · rw [hl] at h; simp at h
  · rw [hl] at h
    simp at h
    subst h
    refine ⟨?_, ?_⟩
    · simp [cnt, hl, notNlB]
    · have : t.data.toList.length = l.length + 1 := by rw [hl]; rfl
      rw [Array.length_toList] at this
      show 0 < t.data.size
      omega
set_option maxHeartbeats 1600000 in
set_option maxRecDepth 100000 in
theorem blanks_any (g B : Nat) (s : ByteArray) (out : List Tok) (w : World) (hS : Scan w g B s out) :
    Calls Tryd.prog 19 #[.pointer (some ⟨g, 0, none⟩)] w fun e w' => e = .returned (.tuple #[]) ∧ Scan w' g B (blankF (s.size + 1) s) out ∧ Below B w w' := by
  have hc := hS.cell
  have hs := hS.sz
  have hgl := hS.lt
  have hBg := hS.ge
  have HS := Lib.hid hS
  go_enter Tryd.func19, Tryd.ntmps19
  refine wp_scope_jumps 0 (fun a' w' => ∃ (t : ByteArray) (k : Nat) (u2 u3 u4 u5 u6 u7 u8 u9 u10 u11 u12 u13 u14 u15 u16 u17 u18 u19 u20 u21 u22 u23 u24 : Value), a' = { tmps := #[.pointer (some ⟨g, 0, none⟩), undef, u2, u3, u4, u5, u6, u7, u8, u9, u10, u11, u12, u13, u14, u15, u16, u17, u18, u19, u20, u21, u22, u23, u24], defers := [] } ∧ Hid (Scan w' g B t out) ∧ Hid (Below B w w') ∧ Hid (blankF (s.size + 1) s = blankF k t ∧ t.size < k)) (fun _ w' => scanLeft g w') rfl ?_ ?_
  · go_wp2
    go_step3
    have hts := trimB_size s
    cases hp : Lib.hasPrefix (trimB s).data.toList [35] with
    | true =>
      have hpre := fun W => Tryd.strings_HasPrefix (trimB s) ⟨#[35]⟩ W
      rw [hp] at hpre
      have HP := Lib.hid hpre
      have hnn := comment_pos hp
      have HKK := Lib.hid (show blankF (s.size + 1) s = blankF s.size ((trimB s).extract (cnt notNlB (trimB s) 0) (trimB s).size) by rw [blankF, if_pos hp])
      clear hpre hp
      go_wp2_with fail
      refine (trim_any _ _).mono ?_
      rintro e w1 ⟨rfl, hb1⟩
      have HS1 := Lib.hid (HS.out.below hb1)
      have HB1 := Lib.hid ((Below.refl B w).trans (hb1.mono (show B ≤ w.heap.size by have := HS.out.lt; omega)))
      have hf := HS1.out.free
      have hc1 := HS1.out.cell
      have HS2 := Lib.hid (HS1.out.set0 (t := trimB s) (by omega))
      have hc2 := HS2.out.cell
      clear hb1 hc
      go_wp2_with ((with_reducible refine (HP.out _).mono ?_); rintro e w' ⟨rfl, rfl⟩)
      have HR := Lib.hid (row_any g (trimB s) ((w1.setCell ⟨g, 0, none⟩ (.string (trimB s))).drew) 0 43 #[] notNlB hc2 (by omega) (by omega) (by omega) cf_blanks1 (fun c h0 h1 => blanks1_any c _))
      have hle := cnt_le notNlB (trimB s) 0
      simp only [show (0 : Int).toNat = 0 from rfl] at HR
      generalize hn : cnt notNlB (trimB s) 0 = n at *
      have hf2 := HS2.out.free
      clear hn
      have hle2 : n ≤ (trimB s).size := by omega
      have hzz : ((trimB s).extract n (trimB s).size).size = (trimB s).size - n := by simp
      have HZZ := Lib.hid hzz
      clear hzz
      have HS3 := Lib.hid (HS2.out.set0 (t := (trimB s).extract n (trimB s).size) (by rw [HZZ.out]; omega))
      have HB3 := Lib.hid ((HB1.out.setCell (p := ⟨g, 0, none⟩) hBg (.string (trimB s))).setCell (p := ⟨g, 0, none⟩) hBg (.string ((trimB s).extract n (trimB s).size)))
      have HC3 := Lib.hid HS3.out.cell
      go_region_with (((with_reducible refine HR.out.mono ?_); rintro e w' ⟨rfl, rfl⟩))
      all_goals
        go_wp2
        go_step3
        exact ⟨rfl, _, s.size, _, _, _, _, _, _, _, _, _, _, _, _, _, _, _, _, _, _, _, _, _, _, _, rfl, HS3, Lib.hid (HB3.out.drew), Lib.hid ⟨HKK.out, by rw [HZZ.out]; omega⟩⟩
    | false =>
      have hpre := fun W => Tryd.strings_HasPrefix (trimB s) ⟨#[35]⟩ W
      rw [hp] at hpre
      have HP := Lib.hid hpre
      have HKK := Lib.hid (show blankF (s.size + 1) s = trimB s by rw [blankF, if_neg (by rw [hp]; simp)])
      clear hpre hp
      go_wp2_with fail
      refine (trim_any _ _).mono ?_
      rintro e w1 ⟨rfl, hb1⟩
      have HS1 := Lib.hid (HS.out.below hb1)
      have HB1 := Lib.hid ((Below.refl B w).trans (hb1.mono (show B ≤ w.heap.size by have := HS.out.lt; omega)))
      have hf := HS1.out.free
      have hc1 := HS1.out.cell
      have HS2 := Lib.hid (HS1.out.set0 (t := trimB s) (by omega))
      have hc2 := HS2.out.cell
      clear hb1 hc
      go_wp2_with ((with_reducible refine (HP.out _).mono ?_); rintro e w' ⟨rfl, rfl⟩)
      simp only [Exit.jump]
      go_end0
      exact ⟨rfl, by rw [HKK.out]; exact HS2.out, HB1.out.setCell (p := ⟨g, 0, none⟩) hBg _⟩
  · rintro a' wr ⟨t, kf, u2, u3, u4, u5, u6, u7, u8, u9, u10, u11, u12, u13, u14, u15, u16, u17, u18, u19, u20, u21, u22, u23, u24, rfl, HSr, HBr, HK⟩
    obtain ⟨kf, rfl⟩ : ∃ m, kf = m + 1 := ⟨kf - 1, by have := HK.out.2; omega⟩
    have hc := HSr.out.cell
    have HCT := Lib.hid hc
    have hs' := HSr.out.sz
    have hts := trimB_size t
    cases hp : Lib.hasPrefix (trimB t).data.toList [35] with
    | true =>
      have hpre := fun W => Tryd.strings_HasPrefix (trimB t) ⟨#[35]⟩ W
      rw [hp] at hpre
      have HP := Lib.hid hpre
      have hnn := comment_pos hp
      have HKK := Lib.hid (show blankF (kf + 1) t = blankF kf ((trimB t).extract (cnt notNlB (trimB t) 0) (trimB t).size) by rw [blankF, if_pos hp])
      clear hpre hp
      go_wp2_with fail
      refine (trim_any _ _).mono ?_
      rintro e w1 ⟨rfl, hb1⟩
      have HS1 := Lib.hid (HSr.out.below hb1)
      have HB1 := Lib.hid ((HBr.out).trans (hb1.mono (show B ≤ wr.heap.size by have := HSr.out.lt; omega)))
      have hf := HS1.out.free
      have hc1 := HS1.out.cell
      have HS2 := Lib.hid (HS1.out.set0 (t := trimB t) (by omega))
      have hc2 := HS2.out.cell
      clear hb1 hc
      go_wp2_with ((with_reducible refine (HP.out _).mono ?_); rintro e w' ⟨rfl, rfl⟩)
      have HR := Lib.hid (row_any g (trimB t) ((w1.setCell ⟨g, 0, none⟩ (.string (trimB t))).drew) 0 43 #[] notNlB hc2 (by omega) (by omega) (by omega) cf_blanks1 (fun c h0 h1 => blanks1_any c _))
      have hle := cnt_le notNlB (trimB t) 0
      simp only [show (0 : Int).toNat = 0 from rfl] at HR
      generalize hn : cnt notNlB (trimB t) 0 = n at *
      have hf2 := HS2.out.free
      clear hn
      have hle2 : n ≤ (trimB t).size := by omega
      have hzz : ((trimB t).extract n (trimB t).size).size = (trimB t).size - n := by simp
      have HZZ := Lib.hid hzz
      clear hzz
      have HS3 := Lib.hid (HS2.out.set0 (t := (trimB t).extract n (trimB t).size) (by rw [HZZ.out]; omega))
      have HB3 := Lib.hid ((HB1.out.setCell (p := ⟨g, 0, none⟩) hBg (.string (trimB t))).setCell (p := ⟨g, 0, none⟩) hBg (.string ((trimB t).extract n (trimB t).size)))
      have HC3 := Lib.hid HS3.out.cell
      go_region_with (((with_reducible refine HR.out.mono ?_); rintro e w' ⟨rfl, rfl⟩))
      all_goals
        go_wp2
        go_step3
        refine ⟨rfl, ⟨_, kf, _, _, _, _, _, _, _, _, _, _, _, _, _, _, _, _, _, _, _, _, _, _, _, rfl, HS3, Lib.hid (HB3.out.drew), Lib.hid ⟨by rw [HK.out.1, HKK.out], by have := HK.out.2; rw [HZZ.out]; omega⟩⟩, ?_⟩
        show scanLeft g ((((w1.setCell ⟨g, 0, none⟩ (.string (trimB t))).setCell ⟨g, 0, none⟩ (.string ((trimB t).extract n (trimB t).size)))).drew) < scanLeft g wr
        rw [scanLeft_drew, scanLeft_of HC3.out, scanLeft_of HCT.out, HZZ.out]
        omega
    | false =>
      have hpre := fun W => Tryd.strings_HasPrefix (trimB t) ⟨#[35]⟩ W
      rw [hp] at hpre
      have HP := Lib.hid hpre
      have HKK := Lib.hid (show blankF (kf + 1) t = trimB t by rw [blankF, if_neg (by rw [hp]; simp)])
      clear hpre hp
      go_wp2_with fail
      refine (trim_any _ _).mono ?_
      rintro e w1 ⟨rfl, hb1⟩
      have HS1 := Lib.hid (HSr.out.below hb1)
      have HB1 := Lib.hid ((HBr.out).trans (hb1.mono (show B ≤ wr.heap.size by have := HSr.out.lt; omega)))
      have hf := HS1.out.free
      have hc1 := HS1.out.cell
      have HS2 := Lib.hid (HS1.out.set0 (t := trimB t) (by omega))
      have hc2 := HS2.out.cell
      clear hb1 hc
      go_wp2_with ((with_reducible refine (HP.out _).mono ?_); rintro e w' ⟨rfl, rfl⟩)
      simp only [Exit.jump]
      go_end0
      exact ⟨rfl, by rw [HK.out.1, HKK.out]; exact HS2.out, HB1.out.setCell (p := ⟨g, 0, none⟩) hBg _⟩
end Go.Proofs.YtpgoemlnjocmhaaDoor.Lex
