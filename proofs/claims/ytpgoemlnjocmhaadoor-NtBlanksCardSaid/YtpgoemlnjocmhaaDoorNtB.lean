/-
  A part of the proof of NtBlanks (whatever the input, the law returns true and the input reads as it did): a quoted text is read back. Conditions stand at each theorem.
-/
import Derived.Test.YtpgoemlnjocmhaaDoorNtA
namespace Go.Proofs.YtpgoemlnjocmhaaDoor.Nt
open Go.RowKit Go.Proofs.YtpgoemlnjocmhaaDoor.Lex
open Go.Proofs.YtpgoemlnjocmhaaDoorW.PrintWords hiding blk_lt blk_cell blk_frozen
set_option linter.unusedVariables false
set_option linter.unusedSimpArgs false

/-- How a byte of a text is written. -/
def escL (c : UInt8) : List UInt8 := if c = 9 then [92, 116] else if c = 10 then [92, 110] else if c = 13 then [92, 114] else if c = 34 then [92, 34] else if c = 92 then [92, 92] else [c]
/-- The sign behind the backslash. -/
def escS (c : UInt8) : UInt8 := if c = 9 then 116 else if c = 10 then 110 else if c = 13 then 114 else c
theorem escL_cases (c : UInt8) : (escL c = [92, escS c] ∧ escC (escS c).toNat = c.toNat ∧ c ≠ 0) ∨ (escL c = [c] ∧ c ≠ 34 ∧ c ≠ 92) := by
  unfold escL escS
  by_cases h1 : c = 9
  · subst h1; left; decide
  by_cases h2 : c = 10
  · subst h2; left; decide
  by_cases h3 : c = 13
  · subst h3; left; decide
  by_cases h4 : c = 34
  · subst h4; left; decide
  by_cases h5 : c = 92
  · subst h5; left; decide
  right
  simp [h1, h2, h3, h4, h5]
def toInts (l : List UInt8) : List Int := l.map fun c => (c.toNat : Int)
theorem toInts_str (l : List UInt8) : strOfNums (toInts l) = ⟨l.toArray⟩ := by
  unfold strOfNums toInts
  simp [List.map_map, Function.comp_def]
theorem alloc_cell0 {n : Nat} (W : World) (h : n = W.heap.size) (u : Value) (t : TypeId) : (W.alloc (.cells #[u] t)).cell? ⟨n, 0, none⟩ = some u := by
  rw [World.cell?_alloc_at _ _ _ _ h]; rfl
theorem info_u8 : (Tryd.prog.info? 5).map (fun i => (i.zero, i.size, i.bytes)) = some (some (.int .u8 0), 1, 1) := by kernel_rfl
theorem Mut.keep {g : Nat} {w w' : World} (h : Mut g w w') : KeepBut w w' g none := ⟨h.1.size, fun i hi hg _ => h.2 i hi hg⟩
theorem own_mut {g : Nat} {w w' : World} {base : Nat} {e : TypeId} {size n : Nat} {v : Value} {xs : List Value} {s : ByteArray} {er : Int} (hl : Line w g s er) (he : e ≠ 64) (ho : w.ownsRow base e size v n xs) (h : Mut g w w') : w'.ownsRow base e size v n xs :=
  h.keep.own ho (fun hg => own_ne ho hl he hg.symm) (by rcases v.ownBlock with _ | k <;> simp)
theorem no_quote {c : UInt8} {l : List UInt8} (h : c ≠ 34) : Lib.hasPrefix (c :: l) [34] = false := by
  have h2 : (34 == c) = false := by simpa using Ne.symm h
  simp [Lib.hasPrefix, List.isPrefixOf, h2]
/-- A text's first byte. -/
theorem first_byte {s : ByteArray} {c : UInt8} {l : List UInt8} (h : s.data.toList = c :: l) : 0 < s.size ∧ (∀ h : 0 < s.size, ((s[0]'h).toNat : Int) = c.toNat) ∧ s.extract 1 s.size = ⟨l.toArray⟩ ∧ s ≠ ByteArray.empty ∧ s.size = l.length + 1 := by
  have hs : s.size = l.length + 1 := by
    have : s.data.toList.length = l.length + 1 := by rw [h]; rfl
    rwa [Array.length_toList] at this
  have he : s = ⟨(c :: l).toArray⟩ := by
    rw [← h]
  refine ⟨by omega, ?_, ?_, ?_, hs⟩
  · intro h; subst he; rfl
  · apply ByteArray.ext
    apply Array.ext'
    rw [hs]
    subst he
    simp
  · intro h0; subst h0; simp at h
/-- How much is left: for a measure. -/
def lineLeft (g : Nat) (w : World) : Nat := match w.cell? ⟨g, 0, none⟩ with | some (.string t) => t.size | _ => 0
theorem lineLeft_of {g : Nat} {w : World} {t : ByteArray} {e : Int} (h : Line w g t e) : lineLeft g w = t.size := by unfold lineLeft; rw [h.cell]
theorem Line.mut {g g' : Nat} {w w' : World} {t : ByteArray} {e : Int} (h : Line w g t e) (hm : Mut g' w w') (hg : g ≠ g') : Line w' g t e := by
  unfold Line; rw [hm.2 g h.lt hg]; exact h
theorem Mut.grow {g : Nat} {a w w' : World} {row : Option Nat} (h : Mut g a w) (hg : w.grownBy w' row) (hr : ∀ k, row = some k → a.heap.size ≤ k) : Mut g a w' :=
  ⟨h.1.grown hg (Nat.zero_le _) (fun _ _ => Nat.zero_le _), fun i hi hne => by rw [hg.block i (by have := h.1.size; omega) (fun e => by have := hr i e.symm; omega)]; exact h.2 i hi hne⟩
theorem Line.grown {g : Nat} {w w' : World} {t : ByteArray} {e : Int} {row : Option Nat} (h : Line w g t e) (hg : w.grownBy w' row) (hr : some g ≠ row) : Line w' g t e := by
  unfold Line; rw [hg.block g h.lt hr]; exact h
theorem Line.alloc {g : Nat} {w : World} {t : ByteArray} {e : Int} (h : Line w g t e) (o : Obj) : Line (w.alloc o) g t e := by
  unfold Line; rw [Below.heap_alloc _ _ _ h.lt]; exact h
theorem Mut.alloc {g : Nat} {a w : World} (h : Mut g a w) (o : Obj) : Mut g a (w.alloc o) := h.step ((Below.refl _ _).alloc (Nat.le_refl _) o)
theorem take_no {s t : ByteArray} (h : Lib.hasPrefix s.data.toList t.data.toList = false) : (⟨(Lib.trimPrefix s.data.toList t.data.toList).toArray⟩ : ByteArray) = s := by
  unfold Lib.trimPrefix; rw [h]; simp
theorem take_false (g : Nat) (s t : ByteArray) (er : Int) (w : World) (hS : Line w g s er) (h : Lib.hasPrefix s.data.toList t.data.toList = false) :
    Calls Tryd.prog 73 #[.pointer (some ⟨g, 0, none⟩), .string t] w fun e w' => e = .returned (.bool false) ∧ Line w' g s er ∧ Mut g w w' := by
  have := take_any g s t er w hS
  rw [take_no h, h] at this
  exact this
theorem take_true (g : Nat) (s t r : ByteArray) (er : Int) (w : World) (hS : Line w g s er) (h : s.data.toList = t.data.toList ++ r.data.toList) :
    Calls Tryd.prog 73 #[.pointer (some ⟨g, 0, none⟩), .string t] w fun e w' => e = .returned (.bool true) ∧ Line w' g r er ∧ Mut g w w' := by
  have hp : Lib.hasPrefix s.data.toList t.data.toList = true := by rw [h]; simp [Lib.hasPrefix, List.isPrefixOf_iff_prefix]
  have := take_any g s t er w hS
  unfold Lib.trimPrefix at this
  rw [hp, h] at this
  simpa using this

set_option maxHeartbeats 4000000 in
set_option maxRecDepth 100000 in
theorem text_ok (g : Nat) (q : List UInt8) (s r : ByteArray) (er : Int) (w : World) (hS : Line w g s er) (hs : s.data.toList = q.flatMap escL ++ 34 :: r.data.toList) (hsz : s.size ≤ 16000) :
    Calls Tryd.prog 107 #[.pointer (some ⟨g, 0, none⟩)] w fun e w' => e = .returned (.string ⟨q.toArray⟩) ∧ Line w' g r er ∧ Mut g w w' := by
  obtain ⟨i0, hi, hz0, hz1, hz2⟩ := info_parts info_u8
  have HS := Lib.hid hS
  have HH := Lib.hid hs
  clear hs hS
  go_enter Tryd.func107, Tryd.ntmps107
  go_wp2
  refine wp_scope_jumps 0 (fun a' w' => ∃ (q' done : List UInt8) (t : ByteArray) (v3 u4 u5 u6 u7 u8 u9 u10 u11 u12 u13 u14 u15 u16 u17 u18 u19 u20 u21 u22 u23 u24 u25 u26 u27 u28 u29 u30 u31 u32 u33 u34 u35 u36 u37 u38 u39 u40 u41 u42 u43 u44 u45 u46 u47 u48 u49 u50 u51 u52 u53 u54 u55 u56 u57 u58 u59 u60 u61 u62 u63 u64 u65 u66 : Value), a' = { tmps := #[.pointer (some ⟨g, 0, none⟩), undef, .string ⟨#[]⟩, v3, u4, u5, u6, u7, u8, u9, u10, u11, u12, u13, u14, u15, u16, u17, u18, u19, u20, u21, u22, u23, u24, u25, u26, u27, u28, u29, u30, u31, u32, u33, u34, u35, u36, u37, u38, u39, u40, u41, u42, u43, u44, u45, u46, u47, u48, u49, u50, u51, u52, u53, u54, u55, u56, u57, u58, u59, u60, u61, u62, u63, u64, u65, u66], defers := [] } ∧ Hid (q = done ++ q' ∧ t.data.toList = q'.flatMap escL ++ 34 :: r.data.toList) ∧ Hid (t.size ≤ 16000 ∧ done.length + t.size ≤ 16000) ∧ Hid (Line w' g t er) ∧ Hid (w'.ownsRow w.heap.size 5 1 v3 done.length (nums .u8 (toInts done))) ∧ Hid (Mut g w w')) (fun _ w' => lineLeft g w') rfl ?_ ?_
  · go_wp2
    go_step3
    obtain ⟨done, hdone⟩ : ∃ d, d = ([] : List UInt8) := ⟨_, rfl⟩
    obtain ⟨q', hq'⟩ : ∃ d, d = q := ⟨_, rfl⟩
    obtain ⟨t, ht⟩ : ∃ d, d = s := ⟨_, rfl⟩
    have HQ : Hid (q = done ++ q' ∧ t.data.toList = q'.flatMap escL ++ 34 :: r.data.toList) := Lib.hid (by subst hdone; subst hq'; subst ht; exact ⟨rfl, HH.out⟩)
    have HZ : Hid (t.size ≤ 16000 ∧ done.length + t.size ≤ 16000) := Lib.hid (by subst hdone; subst ht; simp; omega)
    have HV : Hid (w.ownsRow w.heap.size 5 1 (.slice none 0 0) done.length (nums .u8 (toInts done))) := Lib.hid (by subst hdone; exact own_nil _ _ _ _)
    have HM := Lib.hid (Mut.refl g w)
    generalize Value.slice none 0 0 = v3 at HV ⊢
    rw [← ht] at HS
    clear hdone hq' ht
    have hc := HS.out.cell
    have hfr := HS.out.free 0
    rcases q' with _ | ⟨c, q'⟩
    · have hq := HQ.out.1
      have ht := HQ.out.2
      simp only [List.append_nil, List.flatMap_nil, List.nil_append] at hq ht
      have hne := (first_byte ht).2.2.2.1
      have HT := Lib.hid (take_true g t ⟨#[34]⟩ r er w HS.out ht)
      have hcv := own_string (P := Tryd.prog) Tryd.underlying73 Tryd.underlying5 Tryd.underlying9 HV.out
      have b0 : t.toList.isEmpty = false := by rw [Lib.toList_data, ht]; rfl
      clear hne ht
      go_wp2_with fail
      refine HT.out.mono ?_
      rintro e w1 ⟨rfl, hl1, hm1⟩
      have hcv := own_string (P := Tryd.prog) Tryd.underlying73 Tryd.underlying5 Tryd.underlying9 (own_mut HS.out (by decide) HV.out hm1)
      have HQ1 := Lib.hid hq
      have HL1 := Lib.hid hl1
      have HM1 := Lib.hid hm1
      clear hq hl1 hm1
      go_wp2
      (try simp only [Exit.jump])
      go_ret
      rw [HQ1.out]
      exact ⟨by rw [toInts_str]; rfl, HL1.out, HM.out.trans HM1.out⟩
    · have ht := HQ.out.2
      have hq := HQ.out.1
      simp only [List.flatMap_cons] at ht
      obtain ⟨ci, hci⟩ : ∃ i : Int, i = c.toNat := ⟨_, rfl⟩
      have hc0 : 0 ≤ ci := by omega
      have hc1 : ci ≤ 255 := by have := c.toNat_lt; omega
      have HQ2 := Lib.hid (show q = (done ++ [c]) ++ q' by rw [hq]; simp)
      have hzz := HZ.out
      rcases escL_cases c with ⟨h1, h2, h3⟩ | ⟨h1, h2, h3⟩
      · rw [h1] at ht
        simp only [List.cons_append, List.nil_append] at ht
        obtain ⟨di, hdi⟩ : ∃ i : Int, i = (escS c).toNat := ⟨_, rfl⟩
        have f1 := first_byte ht
        have he1 : (t.extract 1 t.size).data.toList = escS c :: (List.flatMap escL q' ++ 34 :: r.data.toList) := by rw [f1.2.2.1]
        have f2 := first_byte he1
        have b0 : t.toList.isEmpty = false := by rw [Lib.toList_data, ht]; rfl
        have b1 : (t.extract 1 t.size).toList.isEmpty = false := by rw [Lib.toList_data, he1]; rfl
        have hpos : 0 < t.size := f1.1
        have hpos1 : 0 < (t.extract 1 t.size).size := f2.1
        have hsz1 : (t.extract 1 t.size).size = t.size - 1 := by simp
        have hx0 : ∀ h : 0 < t.size, ((t[0]'h).toNat : Int) = 92 := f1.2.1
        have hx1 : ∀ h : 0 < (t.extract 1 t.size).size, (((t.extract 1 t.size)[0]'h).toNat : Int) = di := by rw [hdi]; exact f2.2.1
        have HT := Lib.hid (take_false g t ⟨#[34]⟩ er w HS.out (by rw [ht]; rfl))
        have HE := fun W => Lib.hid (esc_any di W)
        have hesc : escC di = ci := by rw [hdi, hci]; exact h2
        rw [hesc] at HE
        have b4 : (ci == 0) = false := by
          have : c.toNat ≠ 0 := fun h => h3 (UInt8.toNat_inj.1 (by simpa using h))
          simp; omega
        have HQ4 : Hid (q = (done ++ [c]) ++ q' ∧ ((t.extract 1 t.size).extract 1 (t.size - 1)).data.toList = q'.flatMap escL ++ 34 :: r.data.toList) := Lib.hid ⟨HQ2.out, by have := f2.2.2.1; rw [hsz1] at this; rw [this]⟩
        have HZ4 : Hid (((t.extract 1 t.size).extract 1 (t.size - 1)).size ≤ 16000 ∧ (done ++ [c]).length + ((t.extract 1 t.size).extract 1 (t.size - 1)).size ≤ 16000) := Lib.hid (by simp; omega)
        have HL4 := Lib.hid (show ((t.extract 1 t.size).extract 1 (t.size - 1)).size < t.size by simp; omega)
        have HCI := Lib.hid hci
        clear hdi hesc ht he1 h1 h2 h3 hq f1 f2 hci
        go_wp2_with fail
        refine HT.out.mono ?_
        rintro e w1 ⟨rfl, hl1, hm1⟩
        have HL1 := Lib.hid hl1
        have HM1 := Lib.hid (HM.out.trans hm1)
        have HV1 := Lib.hid (own_mut HS.out (by decide) HV.out hm1)
        have hc := HL1.out.cell
        have hfr := HL1.out.free 0
        clear hl1 hm1
        have hne := own_ne HV1.out HL1.out (by decide)
        have HV2 := Lib.hid (own_setCell (own_setCell HV1.out hne (p := ⟨g, 0, none⟩) (.string (t.extract 1 t.size))) hne (p := ⟨g, 0, none⟩) (.string ((t.extract 1 t.size).extract 1 (t.size - 1))))
        clear hne
        go_wp2_with (first | ((with_reducible refine (HE _).out.mono ?_); rintro e w' ⟨rfl, rfl⟩) | (at_builtin; refine wpList_append_own _ rfl _ _ 73 rfl w.heap.size 5 i0 (.int .u8 0) 1 1 Tryd.underlying73 hi hz0 hz1 hz2 rfl (by decide) _ _ _ rfl (HV2.out.alloc _) ⟨w1.heap.size, 0, none⟩ 1 1 [.int .u8 ci] rfl rfl ?c1 ?c2 ?c3 ?c4 ?c5 ?_))
        case c1 =>
          intro j u hj
          match j, hj with
          | 0, hj => simp at hj; subst hj; simp [Addr.add]; exact alloc_cell0 _ (by simp [World.setCell]) _ _
        case c2 => intro u hu; simp at hu; subst hu; rfl
        case c3 => unfold maxLen; omega
        case c4 => omega
        case c5 => have := HM1.out.1.size; simp; omega
        intro v' w2 hown' hgrow _
        obtain ⟨A', c', rfl⟩ := own_slice hown'
        have HS4 := Lib.hid ((((HL1.out.set0 (t.extract 1 t.size)).set0 ((t.extract 1 t.size).extract 1 (t.size - 1))).alloc (.cells #[.int .u8 ci] 5 (0, 0))).grown hgrow (own_ne HV2.out ((HL1.out.set0 (t.extract 1 t.size)).set0 ((t.extract 1 t.size).extract 1 (t.size - 1))) (by decide)))
        have HM4 := Lib.hid ((((HM1.out.set 0 (.string (t.extract 1 t.size))).set 0 (.string ((t.extract 1 t.size).extract 1 (t.size - 1)))).alloc (.cells #[.int .u8 ci] 5 (0, 0))).grow hgrow (fun k hk => own_base HV2.out k hk))
        have HO4 : Hid (w2.ownsRow w.heap.size 5 1 (.slice A' (done.length + 1) c') (done ++ [c]).length (nums .u8 (toInts (done ++ [c])))) := Lib.hid (by have := hown'; rw [HCI.out] at this; simpa [toInts, nums_append, nums] using this)
        clear hown' hgrow
        go_wp2
        go_step3
        exact ⟨rfl, _, _, _, _, _, _, _, _, _, _, _, _, _, _, _, _, _, _, _, _, _, _, _, _, _, _, _, _, _, _, _, _, _, _, _, _, _, _, _, _, _, _, _, _, _, _, _, _, _, _, _, _, _, _, _, _, _, _, _, _, _, _, _, _, _, _, _, rfl, HQ4, HZ4, HS4, HO4, HM4⟩
      · rw [h1] at ht
        simp only [List.cons_append, List.nil_append] at ht
        have f1 := first_byte ht
        have b0 : t.toList.isEmpty = false := by rw [Lib.toList_data, ht]; rfl
        have hpos : 0 < t.size := f1.1
        have hx0 : ∀ h : 0 < t.size, ((t[0]'h).toNat : Int) = ci := by rw [hci]; exact f1.2.1
        have HT := Lib.hid (take_false g t ⟨#[34]⟩ er w HS.out (by rw [ht]; exact no_quote h2))
        have b4 : (ci == 92) = false := by
          have : c.toNat ≠ 92 := fun h => h3 (UInt8.toNat_inj.1 (by simpa using h))
          simp; omega
        have HQ4 : Hid (q = (done ++ [c]) ++ q' ∧ (t.extract 1 t.size).data.toList = q'.flatMap escL ++ 34 :: r.data.toList) := Lib.hid ⟨HQ2.out, by have := f1.2.2.1; rw [this]⟩
        have HZ4 : Hid ((t.extract 1 t.size).size ≤ 16000 ∧ (done ++ [c]).length + (t.extract 1 t.size).size ≤ 16000) := Lib.hid (by simp; omega)
        have HL4 := Lib.hid (show (t.extract 1 t.size).size < t.size by simp; omega)
        have HCI := Lib.hid hci
        clear ht h1 h2 h3 hq f1 hci
        go_wp2_with fail
        refine HT.out.mono ?_
        rintro e w1 ⟨rfl, hl1, hm1⟩
        have HL1 := Lib.hid hl1
        have HM1 := Lib.hid (HM.out.trans hm1)
        have HV1 := Lib.hid (own_mut HS.out (by decide) HV.out hm1)
        have hc := HL1.out.cell
        have hfr := HL1.out.free 0
        clear hl1 hm1
        have hne := own_ne HV1.out HL1.out (by decide)
        have HV2 := Lib.hid (own_setCell HV1.out hne (p := ⟨g, 0, none⟩) (.string (t.extract 1 t.size)))
        clear hne
        go_wp2_with (at_builtin; refine wpList_append_own _ rfl _ _ 73 rfl w.heap.size 5 i0 (.int .u8 0) 1 1 Tryd.underlying73 hi hz0 hz1 hz2 rfl (by decide) _ _ _ rfl (HV2.out.alloc _) ⟨w1.heap.size, 0, none⟩ 1 1 [.int .u8 ci] rfl rfl ?c1 ?c2 ?c3 ?c4 ?c5 ?_)
        case c1 =>
          intro j u hj
          match j, hj with
          | 0, hj => simp at hj; subst hj; simp [Addr.add]; exact alloc_cell0 _ (by simp [World.setCell]) _ _
        case c2 => intro u hu; simp at hu; subst hu; rfl
        case c3 => unfold maxLen; omega
        case c4 => omega
        case c5 => have := HM1.out.1.size; simp; omega
        intro v' w2 hown' hgrow _
        obtain ⟨A', c', rfl⟩ := own_slice hown'
        have HS4 := Lib.hid (((HL1.out.set0 (t.extract 1 t.size)).alloc (.cells #[.int .u8 ci] 5 (0, 0))).grown hgrow (own_ne HV2.out (HL1.out.set0 (t.extract 1 t.size)) (by decide)))
        have HM4 := Lib.hid (((HM1.out.set 0 (.string (t.extract 1 t.size))).alloc (.cells #[.int .u8 ci] 5 (0, 0))).grow hgrow (fun k hk => own_base HV2.out k hk))
        have HO4 : Hid (w2.ownsRow w.heap.size 5 1 (.slice A' (done.length + 1) c') (done ++ [c]).length (nums .u8 (toInts (done ++ [c])))) := Lib.hid (by have := hown'; rw [HCI.out] at this; simpa [toInts, nums_append, nums] using this)
        clear hown' hgrow
        go_wp2
        go_step3
        exact ⟨rfl, _, _, _, _, _, _, _, _, _, _, _, _, _, _, _, _, _, _, _, _, _, _, _, _, _, _, _, _, _, _, _, _, _, _, _, _, _, _, _, _, _, _, _, _, _, _, _, _, _, _, _, _, _, _, _, _, _, _, _, _, _, _, _, _, _, _, _, rfl, HQ4, HZ4, HS4, HO4, HM4⟩

  · rintro a' wr ⟨q', done, t, v3, u4, u5, u6, u7, u8, u9, u10, u11, u12, u13, u14, u15, u16, u17, u18, u19, u20, u21, u22, u23, u24, u25, u26, u27, u28, u29, u30, u31, u32, u33, u34, u35, u36, u37, u38, u39, u40, u41, u42, u43, u44, u45, u46, u47, u48, u49, u50, u51, u52, u53, u54, u55, u56, u57, u58, u59, u60, u61, u62, u63, u64, u65, u66, rfl, HQ, HZ, HS, HV, HM⟩
    have hc := HS.out.cell
    have hfr := HS.out.free 0
    rcases q' with _ | ⟨c, q'⟩
    · have hq := HQ.out.1
      have ht := HQ.out.2
      simp only [List.append_nil, List.flatMap_nil, List.nil_append] at hq ht
      have hne := (first_byte ht).2.2.2.1
      have HT := Lib.hid (take_true g t ⟨#[34]⟩ r er wr HS.out ht)
      have hcv := own_string (P := Tryd.prog) Tryd.underlying73 Tryd.underlying5 Tryd.underlying9 HV.out
      have b0 : t.toList.isEmpty = false := by rw [Lib.toList_data, ht]; rfl
      clear hne ht
      go_wp2_with fail
      refine HT.out.mono ?_
      rintro e w1 ⟨rfl, hl1, hm1⟩
      have hcv := own_string (P := Tryd.prog) Tryd.underlying73 Tryd.underlying5 Tryd.underlying9 (own_mut HS.out (by decide) HV.out hm1)
      have HQ1 := Lib.hid hq
      have HL1 := Lib.hid hl1
      have HM1 := Lib.hid hm1
      clear hq hl1 hm1
      go_wp2
      (try simp only [Exit.jump])
      go_ret
      rw [HQ1.out]
      exact ⟨by rw [toInts_str]; rfl, HL1.out, HM.out.trans HM1.out⟩
    · have ht := HQ.out.2
      have hq := HQ.out.1
      simp only [List.flatMap_cons] at ht
      obtain ⟨ci, hci⟩ : ∃ i : Int, i = c.toNat := ⟨_, rfl⟩
      have hc0 : 0 ≤ ci := by omega
      have hc1 : ci ≤ 255 := by have := c.toNat_lt; omega
      have HQ2 := Lib.hid (show q = (done ++ [c]) ++ q' by rw [hq]; simp)
      have hzz := HZ.out
      rcases escL_cases c with ⟨h1, h2, h3⟩ | ⟨h1, h2, h3⟩
      · rw [h1] at ht
        simp only [List.cons_append, List.nil_append] at ht
        obtain ⟨di, hdi⟩ : ∃ i : Int, i = (escS c).toNat := ⟨_, rfl⟩
        have f1 := first_byte ht
        have he1 : (t.extract 1 t.size).data.toList = escS c :: (List.flatMap escL q' ++ 34 :: r.data.toList) := by rw [f1.2.2.1]
        have f2 := first_byte he1
        have b0 : t.toList.isEmpty = false := by rw [Lib.toList_data, ht]; rfl
        have b1 : (t.extract 1 t.size).toList.isEmpty = false := by rw [Lib.toList_data, he1]; rfl
        have hpos : 0 < t.size := f1.1
        have hpos1 : 0 < (t.extract 1 t.size).size := f2.1
        have hsz1 : (t.extract 1 t.size).size = t.size - 1 := by simp
        have hx0 : ∀ h : 0 < t.size, ((t[0]'h).toNat : Int) = 92 := f1.2.1
        have hx1 : ∀ h : 0 < (t.extract 1 t.size).size, (((t.extract 1 t.size)[0]'h).toNat : Int) = di := by rw [hdi]; exact f2.2.1
        have HT := Lib.hid (take_false g t ⟨#[34]⟩ er wr HS.out (by rw [ht]; rfl))
        have HE := fun W => Lib.hid (esc_any di W)
        have hesc : escC di = ci := by rw [hdi, hci]; exact h2
        rw [hesc] at HE
        have b4 : (ci == 0) = false := by
          have : c.toNat ≠ 0 := fun h => h3 (UInt8.toNat_inj.1 (by simpa using h))
          simp; omega
        have HQ4 : Hid (q = (done ++ [c]) ++ q' ∧ ((t.extract 1 t.size).extract 1 (t.size - 1)).data.toList = q'.flatMap escL ++ 34 :: r.data.toList) := Lib.hid ⟨HQ2.out, by have := f2.2.2.1; rw [hsz1] at this; rw [this]⟩
        have HZ4 : Hid (((t.extract 1 t.size).extract 1 (t.size - 1)).size ≤ 16000 ∧ (done ++ [c]).length + ((t.extract 1 t.size).extract 1 (t.size - 1)).size ≤ 16000) := Lib.hid (by simp; omega)
        have HL4 := Lib.hid (show ((t.extract 1 t.size).extract 1 (t.size - 1)).size < t.size by simp; omega)
        have HCI := Lib.hid hci
        clear hdi hesc ht he1 h1 h2 h3 hq f1 f2 hci
        go_wp2_with fail
        refine HT.out.mono ?_
        rintro e w1 ⟨rfl, hl1, hm1⟩
        have HL1 := Lib.hid hl1
        have HM1 := Lib.hid (HM.out.trans hm1)
        have HV1 := Lib.hid (own_mut HS.out (by decide) HV.out hm1)
        have hc := HL1.out.cell
        have hfr := HL1.out.free 0
        clear hl1 hm1
        have hne := own_ne HV1.out HL1.out (by decide)
        have HV2 := Lib.hid (own_setCell (own_setCell HV1.out hne (p := ⟨g, 0, none⟩) (.string (t.extract 1 t.size))) hne (p := ⟨g, 0, none⟩) (.string ((t.extract 1 t.size).extract 1 (t.size - 1))))
        clear hne
        go_wp2_with (first | ((with_reducible refine (HE _).out.mono ?_); rintro e w' ⟨rfl, rfl⟩) | (at_builtin; refine wpList_append_own _ rfl _ _ 73 rfl w.heap.size 5 i0 (.int .u8 0) 1 1 Tryd.underlying73 hi hz0 hz1 hz2 rfl (by decide) _ _ _ rfl (HV2.out.alloc _) ⟨w1.heap.size, 0, none⟩ 1 1 [.int .u8 ci] rfl rfl ?c1 ?c2 ?c3 ?c4 ?c5 ?_))
        case c1 =>
          intro j u hj
          match j, hj with
          | 0, hj => simp at hj; subst hj; simp [Addr.add]; exact alloc_cell0 _ (by simp [World.setCell]) _ _
        case c2 => intro u hu; simp at hu; subst hu; rfl
        case c3 => unfold maxLen; omega
        case c4 => omega
        case c5 => have := HM1.out.1.size; simp; omega
        intro v' w2 hown' hgrow _
        obtain ⟨A', c', rfl⟩ := own_slice hown'
        have HS4 := Lib.hid ((((HL1.out.set0 (t.extract 1 t.size)).set0 ((t.extract 1 t.size).extract 1 (t.size - 1))).alloc (.cells #[.int .u8 ci] 5 (0, 0))).grown hgrow (own_ne HV2.out ((HL1.out.set0 (t.extract 1 t.size)).set0 ((t.extract 1 t.size).extract 1 (t.size - 1))) (by decide)))
        have HM4 := Lib.hid ((((HM1.out.set 0 (.string (t.extract 1 t.size))).set 0 (.string ((t.extract 1 t.size).extract 1 (t.size - 1)))).alloc (.cells #[.int .u8 ci] 5 (0, 0))).grow hgrow (fun k hk => own_base HV2.out k hk))
        have HO4 : Hid (w2.ownsRow w.heap.size 5 1 (.slice A' (done.length + 1) c') (done ++ [c]).length (nums .u8 (toInts (done ++ [c])))) := Lib.hid (by have := hown'; rw [HCI.out] at this; simpa [toInts, nums_append, nums] using this)
        clear hown' hgrow
        go_wp2
        go_step3
        exact ⟨rfl, ⟨_, _, _, _, _, _, _, _, _, _, _, _, _, _, _, _, _, _, _, _, _, _, _, _, _, _, _, _, _, _, _, _, _, _, _, _, _, _, _, _, _, _, _, _, _, _, _, _, _, _, _, _, _, _, _, _, _, _, _, _, _, _, _, _, _, _, _, rfl, HQ4, HZ4, HS4, HO4, HM4⟩, by rw [lineLeft_of HS4.out, lineLeft_of HS.out]; exact HL4.out⟩
      · rw [h1] at ht
        simp only [List.cons_append, List.nil_append] at ht
        have f1 := first_byte ht
        have b0 : t.toList.isEmpty = false := by rw [Lib.toList_data, ht]; rfl
        have hpos : 0 < t.size := f1.1
        have hx0 : ∀ h : 0 < t.size, ((t[0]'h).toNat : Int) = ci := by rw [hci]; exact f1.2.1
        have HT := Lib.hid (take_false g t ⟨#[34]⟩ er wr HS.out (by rw [ht]; exact no_quote h2))
        have b4 : (ci == 92) = false := by
          have : c.toNat ≠ 92 := fun h => h3 (UInt8.toNat_inj.1 (by simpa using h))
          simp; omega
        have HQ4 : Hid (q = (done ++ [c]) ++ q' ∧ (t.extract 1 t.size).data.toList = q'.flatMap escL ++ 34 :: r.data.toList) := Lib.hid ⟨HQ2.out, by have := f1.2.2.1; rw [this]⟩
        have HZ4 : Hid ((t.extract 1 t.size).size ≤ 16000 ∧ (done ++ [c]).length + (t.extract 1 t.size).size ≤ 16000) := Lib.hid (by simp; omega)
        have HL4 := Lib.hid (show (t.extract 1 t.size).size < t.size by simp; omega)
        have HCI := Lib.hid hci
        clear ht h1 h2 h3 hq f1 hci
        go_wp2_with fail
        refine HT.out.mono ?_
        rintro e w1 ⟨rfl, hl1, hm1⟩
        have HL1 := Lib.hid hl1
        have HM1 := Lib.hid (HM.out.trans hm1)
        have HV1 := Lib.hid (own_mut HS.out (by decide) HV.out hm1)
        have hc := HL1.out.cell
        have hfr := HL1.out.free 0
        clear hl1 hm1
        have hne := own_ne HV1.out HL1.out (by decide)
        have HV2 := Lib.hid (own_setCell HV1.out hne (p := ⟨g, 0, none⟩) (.string (t.extract 1 t.size)))
        clear hne
        go_wp2_with (at_builtin; refine wpList_append_own _ rfl _ _ 73 rfl w.heap.size 5 i0 (.int .u8 0) 1 1 Tryd.underlying73 hi hz0 hz1 hz2 rfl (by decide) _ _ _ rfl (HV2.out.alloc _) ⟨w1.heap.size, 0, none⟩ 1 1 [.int .u8 ci] rfl rfl ?c1 ?c2 ?c3 ?c4 ?c5 ?_)
        case c1 =>
          intro j u hj
          match j, hj with
          | 0, hj => simp at hj; subst hj; simp [Addr.add]; exact alloc_cell0 _ (by simp [World.setCell]) _ _
        case c2 => intro u hu; simp at hu; subst hu; rfl
        case c3 => unfold maxLen; omega
        case c4 => omega
        case c5 => have := HM1.out.1.size; simp; omega
        intro v' w2 hown' hgrow _
        obtain ⟨A', c', rfl⟩ := own_slice hown'
        have HS4 := Lib.hid (((HL1.out.set0 (t.extract 1 t.size)).alloc (.cells #[.int .u8 ci] 5 (0, 0))).grown hgrow (own_ne HV2.out (HL1.out.set0 (t.extract 1 t.size)) (by decide)))
        have HM4 := Lib.hid (((HM1.out.set 0 (.string (t.extract 1 t.size))).alloc (.cells #[.int .u8 ci] 5 (0, 0))).grow hgrow (fun k hk => own_base HV2.out k hk))
        have HO4 : Hid (w2.ownsRow w.heap.size 5 1 (.slice A' (done.length + 1) c') (done ++ [c]).length (nums .u8 (toInts (done ++ [c])))) := Lib.hid (by have := hown'; rw [HCI.out] at this; simpa [toInts, nums_append, nums] using this)
        clear hown' hgrow
        go_wp2
        go_step3
        exact ⟨rfl, ⟨_, _, _, _, _, _, _, _, _, _, _, _, _, _, _, _, _, _, _, _, _, _, _, _, _, _, _, _, _, _, _, _, _, _, _, _, _, _, _, _, _, _, _, _, _, _, _, _, _, _, _, _, _, _, _, _, _, _, _, _, _, _, _, _, _, _, _, rfl, HQ4, HZ4, HS4, HO4, HM4⟩, by rw [lineLeft_of HS4.out, lineLeft_of HS.out]; exact HL4.out⟩

end Go.Proofs.YtpgoemlnjocmhaaDoor.Nt
