/-
  A part of the proof of NtBlanks (whatever the input, the law returns true and the input reads as it did): triples made of raw ones; few; the same. Conditions stand at each theorem.
-/
import Derived.Test.YtpgoemlnjocmhaaDoorNtN
namespace Go.Proofs.YtpgoemlnjocmhaaDoor.Nt
open Go.RowKit Go.Proofs.YtpgoemlnjocmhaaDoor.Lex
open Go.Proofs.YtpgoemlnjocmhaaDoorW.PrintWords hiding blk_lt blk_cell blk_frozen
set_option linter.unusedVariables false
set_option linter.unusedSimpArgs false

set_option maxHeartbeats 4000000 in
set_option maxRecDepth 100000 in
theorem few9_any (A : Option Addr) (c : Nat) (l : List T3) (w : World) (hl : l.length ≤ 140737488351232) (hv : TriRow w (.slice A l.length c) l) (hs : ∀ t ∈ l, t.small) :
    Calls Tryd.prog 11 #[.slice A l.length c] w (BoolPost w) := by
  have HV := Lib.hid hv
  have HS := Lib.hid hs
  clear hv hs
  go_enter Tryd.func11, Tryd.ntmps11
  go_wp2
  go_loopw [3] (fun v3 wr => ∃ i : Nat, v3 = .int .i64 i ∧ i ≤ l.length ∧ Hid (Below w.heap.size w wr)) (fun v _ => l.length - (intOf v).toNat)
  case atStart => exact ⟨0, rfl, by omega, Lib.hid (Below.refl _ _)⟩
  case round =>
    obtain ⟨i, rfl, hi, HB⟩ := hrel
    rename World => wo
    by_cases hlt : i < l.length
    · obtain ⟨t, ht⟩ : ∃ t, l[i]? = some t := ⟨l[i], by simp [hlt]⟩
      have HT := Lib.hid ht
      have HM := Lib.hid (HS.out t (List.mem_of_getElem? ht))
      clear ht
      go_wp2
      go_loopw [4] (fun v4 wr => ∃ k : Nat, v4 = .int .i64 k ∧ k ≤ 3 ∧ Hid (Below w.heap.size w wr)) (fun v _ => 3 - (intOf v).toNat)
      case atStart => exact ⟨0, rfl, by omega, HB⟩
      case round =>
        obtain ⟨k, rfl, hk, HB2⟩ := hrel
        obtain ⟨x, rfl, x0, x1, x2, x3, x4, x5, x6, x7, x8, x9, x10, x11⟩ := (HV.out.below HB2.out).at12 i t HT.out
        have h4 : k = 0 ∨ k = 1 ∨ k = 2 ∨ k = 3 := by omega
        rcases h4 with rfl | rfl | rfl | rfl
        · have HF := Lib.hid (few6_any t.a wr HM.out.1)
          go_wp2_with fail
          refine HF.out.mono ?_
          rintro e w2 ⟨b, rfl, hb⟩
          have HB3 := Lib.hid (HB2.out.trans (hb.mono HB2.out.size))
          clear hb
          cases b
          · go_wp2
            go_ret
            exact ⟨_, rfl, HB3.out⟩
          · go_wp2
            go_roundw
            case rel => exact ⟨1, by go_num, by omega, HB3⟩
            case measure => simp [intOf]
        · have HF := Lib.hid (few6_any t.b wr HM.out.2.1)
          go_wp2_with fail
          refine HF.out.mono ?_
          rintro e w2 ⟨b, rfl, hb⟩
          have HB3 := Lib.hid (HB2.out.trans (hb.mono HB2.out.size))
          clear hb
          cases b
          · go_wp2
            go_ret
            exact ⟨_, rfl, HB3.out⟩
          · go_wp2
            go_roundw
            case rel => exact ⟨2, by go_num, by omega, HB3⟩
            case measure => simp [intOf]
        · have HF := Lib.hid (few6_any t.c wr HM.out.2.2)
          go_wp2_with fail
          refine HF.out.mono ?_
          rintro e w2 ⟨b, rfl, hb⟩
          have HB3 := Lib.hid (HB2.out.trans (hb.mono HB2.out.size))
          clear hb
          cases b
          · go_wp2
            go_ret
            exact ⟨_, rfl, HB3.out⟩
          · go_wp2
            go_roundw
            case rel => exact ⟨3, by go_num, by omega, HB3⟩
            case measure => simp [intOf]
        · go_wp2
          go_roundw
          case rel => exact ⟨i + 1, by go_num, by omega, HB2⟩
          case measure => simp [intOf]; omega
    · by_cases h40 : (l.length : Int) ≤ 40
      all_goals
        go_wp2
        go_ret
        exact ⟨_, rfl, HB.out⟩
/-- What All gives. -/
def RowPost (w : World) (e : Ending) (w' : World) : Prop := ∃ (v : Value) (out : List T3), e = .returned v ∧ w'.ownsRow w.heap.size 42 12 v out.length (cells3 out) ∧ out.length ≤ 30 ∧ (∀ t ∈ out, t.ok) ∧ Below w.heap.size w w'
set_option maxHeartbeats 4000000 in
set_option maxRecDepth 100000 in
theorem all_any (A : Option Addr) (c : Nat) (l : List T3) (w : World) (hl : l.length ≤ 140737488351232) (hv : TriRow w (.slice A l.length c) l) (hs : ∀ t ∈ l, t.small) :
    Calls Tryd.prog 13 #[.slice A l.length c] w (RowPost w) := by
  have HV := Lib.hid hv
  have HS := Lib.hid hs
  obtain ⟨i0, hi0, hz0, hz1, hz2⟩ := info_parts info_tri
  clear hv hs
  go_enter Tryd.func13, Tryd.ntmps13
  go_wp2
  go_loopw [3, 4] (fun v3 v4 wr => ∃ (i : Nat) (out : List T3), v4 = .int .i64 i ∧ i ≤ l.length ∧ i ≤ 30 ∧ Hid (out.length = i ∧ ∀ t ∈ out, t.ok) ∧ Hid (wr.ownsRow w.heap.size 42 12 v3 out.length (cells3 out)) ∧ Hid (Below w.heap.size w wr)) (fun _ v _ => 30 - (intOf v).toNat)
  case atStart => exact ⟨0, [], rfl, by omega, by omega, Lib.hid ⟨rfl, fun t h => by cases h⟩, Lib.hid (own_nil _ _ _ _), Lib.hid (Below.refl _ _)⟩
  case round =>
    obtain ⟨i, out, rfl, hi, hi2, HOK, HO, HB⟩ := hrel
    by_cases hlt : i < l.length
    · by_cases h30 : i < 30
      · obtain ⟨t, ht⟩ : ∃ t, l[i]? = some t := ⟨l[i], by simp [hlt]⟩
        obtain ⟨x, rfl, x0, x1, x2, x3, x4, x5, x6, x7, x8, x9, x10, x11⟩ := (HV.out.below HB.out).at12 i t ht
        have HG := Lib.hid (good9_any t wr (HS.out t (List.mem_of_getElem? ht)))
        have hol : out.length ≤ 30 := by have := HOK.out.1; omega
        clear ht
        go_wp2_with fail
        refine HG.out.mono ?_
        rintro e w2 ⟨t', hok, rfl, hb⟩
        have HB2 := Lib.hid (HB.out.trans (hb.mono HB.out.size))
        have HO2 := Lib.hid (pw_own_below HO.out hb)
        have HT := Lib.hid hok
        have hbs := HB2.out.size
        clear hb hok
        go_wp2_with (at_builtin; refine wpList_append_lies _ rfl _ _ 34 rfl w.heap.size 42 i0 (.agg zs) 12 168 Tryd.underlying34 hi0 hz0 hz1 hz2 rfl (by omega) _ out.length (cells3 out) rfl (HO2.out.alloc _) ⟨w2.heap.size, 0, none⟩ 1 1 (triL t') rfl rfl (World.news_of_block (cs := triC t'.a t'.b t'.c) (t := 42) (fr := (0, 0)) (heap_alloc_new w2 _)) (by simp [triL, Value.oneCell']) (by omega) (by unfold maxLen; omega) (by omega) (by simp; omega) (w2.heap.size + 1) (by simp) ?_; intro g cap w3 hown3 hgrow hat hlt3)
        have HO3 := Lib.hid hown3
        have hbb := Lib.hid (own_base HO2.out)
        have HB3 := Lib.hid ((HB2.out.alloc hbs _).grown hgrow (by simp; omega) (fun k hk => hbb.out k hk))
        clear hown3 hgrow hat hlt3
        go_wp2
        go_roundw
        case rel => exact ⟨i + 1, out ++ [t'], by go_num, by omega, by omega, Lib.hid ⟨by simp [HOK.out.1], fun u hu => by
          rcases List.mem_append.1 hu with h | h
          · exact HOK.out.2 u h
          · rw [List.mem_singleton.1 h]; exact HT.out⟩, Lib.hid (by rw [cells3_snoc]; simpa using HO3.out), HB3⟩
        case measure => simp [intOf]; omega
      · obtain rfl : i = 30 := by omega
        go_wp2
        go_ret
        exact ⟨_, out, rfl, HO.out, by have := HOK.out.1; omega, HOK.out.2, HB.out⟩
    · by_cases h30 : i < 30
      all_goals
        go_wp2
        go_ret
        exact ⟨_, out, rfl, HO.out, by have := HOK.out.1; omega, HOK.out.2, HB.out⟩
end Go.Proofs.YtpgoemlnjocmhaaDoor.Nt
