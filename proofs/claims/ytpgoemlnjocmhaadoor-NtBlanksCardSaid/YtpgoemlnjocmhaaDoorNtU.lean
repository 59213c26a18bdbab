/-
  A part of the proof of NtBlanks (whatever the input, the law returns true and the input reads as it did): the law walked, whole. Conditions stand at each theorem.
-/
import Derived.Test.YtpgoemlnjocmhaaDoorNtT
import Derived.Deep.RegionHeld3
namespace Go.Proofs.YtpgoemlnjocmhaaDoor.Nt
open Go.RowKit Go.Proofs.YtpgoemlnjocmhaaDoor.Lex
open Go.Proofs.YtpgoemlnjocmhaaDoorW.PrintWords hiding blk_lt blk_cell blk_frozen
set_option linter.unusedVariables false
set_option linter.unusedSimpArgs false

theorem fine_len {t : T} (h : t.fine) : t.s.length ≤ 100000000 ∧ t.la.length ≤ 100000000 ∧ t.ty.length ≤ 100000000 := by
  rcases h with ⟨h1, h2, h3, h4, h5, h6⟩ | ⟨h1, h2, h3, h4, h5, h6⟩ | ⟨h1, h5, ⟨h2, h3⟩ | ⟨h2, h3, h4, h6⟩ | ⟨h2, h3, h4, h6⟩⟩
  · rw [h2, h3]; exact ⟨by omega, by simp, by simp⟩
  · rw [h2, h3]; exact ⟨by omega, by simp, by simp⟩
  · rw [h2, h3]; exact ⟨by omega, by simp, by simp⟩
  · rw [h3]; exact ⟨by omega, by omega, by simp⟩
  · rw [h2]; exact ⟨by omega, by simp, by omega⟩
theorem wrap_eq (n : Int) : IntKind.i64.wrap n = wrap64 n := IntWalk.i64_left n
theorem four_at (a : Int) : ∃ b : Nat, b < 4 ∧ a % 4 = b := ⟨(a % 4).toNat, by omega, by omega⟩
theorem five_at (a : Int) : ∃ b : Nat, b < 5 ∧ a % 5 = b := ⟨(a % 5).toNat, by omega, by omega⟩
theorem bl_size (b : Nat) (h : b < 4) : (mkB (blQ b)).size ≤ 2 := by rcases four b h with rfl | rfl | rfl | rfl <;> decide
theorem end_size (e : Nat) (h : e < 5) : (mkB (endQ e)).size ≤ 9 := by rcases five e h with rfl | rfl | rfl | rfl | rfl <;> decide
theorem mkB_size (l : Bs) : (mkB l).size = l.length := size_of l
theorem mkB_app (a b : Bs) : mkB a ++ mkB b = mkB (a ++ b) := by
  apply ByteArray.ext; apply Array.ext'; simp [mkB]
set_option maxHeartbeats 16000000 in
set_option maxRecDepth 100000 in
theorem law_any (A : Option Addr) (c : Nat) (l : List T3) (a : Option Addr) (len cap : Nat) (m : Int) (w : World) (hl : l.length ≤ 140737488351232) (hlen : len ≤ 140737488351232) (hv : TriRow w (.slice A l.length c) l) (hs : ∀ t ∈ l, t.small) (hN : NumR w a len) (hm : w.cell? ⟨0, 0, none⟩ = some (.int .i64 m)) :
    Calls Tryd.prog 4 #[.slice A l.length c, .slice a len cap] w fun e w' => e = .returned (.bool true) ∧ Below w.heap.size w w' := by
  have HV := Lib.hid hv
  have HS := Lib.hid hs
  have HN := Lib.hid hN
  have HM := Lib.hid hm
  clear hv hs hN hm
  have MB : Hid (∀ w1 : World, Below w.heap.size w w1 → w1.cell? ⟨0, 0, none⟩ = some (.int .i64 m)) := Lib.hid (fun w1 hb => (hb.cell (World.block_lt_of_cell? _ _ HM.out)).trans HM.out)
  go_enter Tryd.func4, Tryd.ntmps4
  go_wp2_with fail
  refine (known9_any m _ HM.out).mono ?_
  rintro e w1 ⟨rfl, hb1⟩
  have HB1 := Lib.hid hb1
  clear hb1
  go_wp2_with fail
  refine (few9_any A c l w1 hl (HV.out.below HB1.out) HS.out).mono ?_
  rintro e w2 ⟨b, rfl, hb2⟩
  have HB2 := Lib.hid (HB1.out.trans (hb2.mono HB1.out.size))
  clear hb2
  cases b
  · go_wp2
    go_ret
    exact ⟨rfl, HB2.out⟩
  go_wp2_with fail
  refine (all_any A c l w2 hl (HV.out.below HB2.out) HS.out).mono ?_
  rintro e w3 ⟨v3, out, rfl, ho3, ho30, hok, hb3⟩
  have HB3 := Lib.hid (HB2.out.trans (hb3.mono HB2.out.size))
  have HR3 := Lib.hid (TriRow.of ho3)
  have HOK := Lib.hid hok
  clear ho3 hok hb3
  go_wp2_with fail
  refine (set_any v3 out w3 (by omega) HR3.out).mono ?_
  rintro e w4 ⟨v4, rfl, ho4, hb4⟩
  have HB4 := Lib.hid (HB3.out.trans (hb4.mono HB3.out.size))
  have hg30 : (setT out).length ≤ 30 := by have := setT_len out; omega
  have HGK := Lib.hid (show ∀ t ∈ setT out, t.ok from fun t ht => HOK.out t (setT_mem out t ht))
  have HR4 := Lib.hid (TriRow.of ho4)
  obtain ⟨A4, c4, hv4⟩ := own_slice ho4
  subst hv4
  clear ho4 hb4 HR3 HOK
  generalize setT out = g at *
  go_wp2
  go_loopw [6, 7] (fun v6 v7 wr => ∃ (i : Nat) (s : ByteArray) (R : List Rw), v7 = .int .i64 i ∧ i ≤ g.length ∧ v6 = .string s ∧ s.size ≤ 720 * i ∧ Hid (s = mkB (docL R) ∧ (∀ r ∈ R, RowGood r) ∧ R.filterMap Prod.snd = g.take i) ∧ Hid (Below w4.heap.size w4 wr)) (fun _ v7 _ => g.length - (intOf v7).toNat)
  case atStart => exact ⟨0, ⟨#[]⟩, [], rfl, by omega, rfl, by decide, Lib.hid ⟨rfl, (fun r h => by cases h), rfl⟩, Lib.hid (Below.refl _ _)⟩
  case round =>
    obtain ⟨i, s, R, rfl, hi, rfl, hsz, HRr, HBl⟩ := hrel
    rename World => wo
    by_cases hlt : i < g.length
    · obtain ⟨t, ht⟩ : ∃ t, g[i]? = some t := ⟨g[i], by simp [hlt]⟩
      have HT := Lib.hid ht
      have HTO := Lib.hid (HGK.out t (List.mem_of_getElem? ht))
      clear ht
      go_upto_block 1 with fail
      go_cut [6, 8, 9] from 27 to 81 (fun s6 s8 s9 wx => ∃ (s2 : ByteArray) (R2 : List Rw), s6 = .string s2 ∧ s2.size ≤ 720 * (i + 1) ∧ Hid (s2 = mkB (docL R2) ∧ (∀ q ∈ R2, RowGood q) ∧ R2.filterMap Prod.snd = g.take (i + 1)) ∧ Hid (Below w4.heap.size w4 wx))
      case first =>
        go_upto_if 31 with fail
        go_cut [8] from 32 to 35 (fun s8 wx => ∃ v : Int, s8 = .int .i64 v ∧ wx = wo)
        case first =>
          by_cases hn : i < len
          · obtain ⟨x, v, rfl, hx⟩ := (HN.out.below (HB4.out.trans (HBl.out.mono HB4.out.size))) i hn
            go_wp2
            go_meet
            exact ⟨v, rfl, rfl⟩
          · go_wp2
            go_meet
            exact ⟨_, rfl, rfl⟩
        case rest =>
          obtain ⟨v, rfl, rfl⟩ := hcut
          rename World => wo
          obtain ⟨b, hb4, hvb⟩ := four_at v
          have HW4 := Lib.hid (fun W => within9_any v 4 W (by omega) (by omega))
          rw [hvb] at HW4
          clear hvb
          go_upto_region 13 with fail
          go_cut [9] from 36 to 40 (fun s9 wx => s9 = .string (mkB (blQ b)) ∧ Hid (Below wo.heap.size wo wx))
          case first =>
            rcases four b hb4 with rfl | rfl | rfl | rfl
            all_goals
              go_wp2_with ((with_reducible refine (HW4.out _).mono ?_); rintro e w' ⟨rfl, rfl⟩)
              go_meet
              exact ⟨rfl, Lib.hid ((Below.refl _ _).alloc (Nat.le_refl _) _)⟩
          case rest =>
            obtain ⟨rfl, HBb⟩ := hcut
            rename World => w5
            have HB5 := Lib.hid (HBl.out.trans (HBb.out.mono HBl.out.size))
            clear HBb HBl HW4
            obtain ⟨x, rfl, x0, x1, x2, x3, x4, x5, x6, x7, x8, x9, x10, x11⟩ := (HR4.out.below HB5.out).at12 i t HT.out
            have hbs := bl_size b hb4
            have TA := fun W => text_any t.a W (fine_len HTO.out.1).1 (fine_len HTO.out.1).2.1 (fine_len HTO.out.1).2.2
            have TB := fun W => text_any t.b W (fine_len HTO.out.2.1).1 (fine_len HTO.out.2.1).2.1 (fine_len HTO.out.2.1).2.2
            have TC := fun W => text_any t.c W (fine_len HTO.out.2.2.1).1 (fine_len HTO.out.2.2.1).2.1 (fine_len HTO.out.2.2.1).2.2
            obtain ⟨ta, hta⟩ : ∃ ta, ta = mkB (textQ t.a) := ⟨_, rfl⟩
            obtain ⟨tb, htb⟩ : ∃ ta, ta = mkB (textQ t.b) := ⟨_, rfl⟩
            obtain ⟨tc, htc⟩ : ∃ ta, ta = mkB (textQ t.c) := ⟨_, rfl⟩
            obtain ⟨bs, hbb⟩ : ∃ bs, bs = mkB (blQ b) := ⟨_, rfl⟩
            have HTA := Lib.hid (show ∀ W, Calls _ _ #[.agg #[.int .i64 t.a.k, .string ⟨t.a.s.toArray⟩, .string ⟨t.a.la.toArray⟩, .string ⟨t.a.ty.toArray⟩]] W (fun e w' => e = .returned (.string ta) ∧ Below W.heap.size W w') from fun W => by rw [hta]; exact TA W)
            have HTB := Lib.hid (show ∀ W, Calls _ _ #[.agg #[.int .i64 t.b.k, .string ⟨t.b.s.toArray⟩, .string ⟨t.b.la.toArray⟩, .string ⟨t.b.ty.toArray⟩]] W (fun e w' => e = .returned (.string tb) ∧ Below W.heap.size W w') from fun W => by rw [htb]; exact TB W)
            have HTC := Lib.hid (show ∀ W, Calls _ _ #[.agg #[.int .i64 t.c.k, .string ⟨t.c.s.toArray⟩, .string ⟨t.c.la.toArray⟩, .string ⟨t.c.ty.toArray⟩]] W (fun e w' => e = .returned (.string tc) ∧ Below W.heap.size W w') from fun W => by rw [htc]; exact TC W)
            have sa : ta.size ≤ 200 := by rw [hta, mkB_size]; exact textQ_len t.a HTO.out.1
            have sb : tb.size ≤ 200 := by rw [htb, mkB_size]; exact textQ_len t.b HTO.out.2.1
            have sc : tc.size ≤ 200 := by rw [htc, mkB_size]; exact textQ_len t.c HTO.out.2.2.1
            rw [← hbb] at hbs ⊢
            have HE := Lib.hid (And.intro hta (And.intro htb (And.intro htc hbb)))
            clear hta htb htc hbb TA TB TC
            have f1 : ¬ 9223372036854775807 < s.size + bs.size := by omega
            have f2 : ¬ 9223372036854775807 < s.size + bs.size + ta.size := by omega
            have f3 : ¬ 9223372036854775807 < s.size + bs.size + ta.size + bs.size := by omega
            have f4 : ¬ 9223372036854775807 < s.size + bs.size + ta.size + bs.size + 1 := by omega
            have f5 : ¬ 9223372036854775807 < s.size + bs.size + ta.size + bs.size + 1 + tb.size := by omega
            have f6 : ¬ 9223372036854775807 < s.size + bs.size + ta.size + bs.size + 1 + tb.size + bs.size := by omega
            have f7 : ¬ 9223372036854775807 < s.size + bs.size + ta.size + bs.size + 1 + tb.size + bs.size + tc.size := by omega
            have f8 : ¬ 9223372036854775807 < s.size + bs.size + ta.size + bs.size + 1 + tb.size + bs.size + tc.size + bs.size := by omega
            have f9 : ¬ 9223372036854775807 < s.size + bs.size + ta.size + bs.size + 1 + tb.size + bs.size + tc.size + bs.size + 1 := by omega
            have f10 : ¬ 9223372036854775807 < s.size + bs.size + ta.size + bs.size + 1 + tb.size + bs.size + tc.size + bs.size + 1 + bs.size := by omega
            have q1 : (0 : Int) ≤ (i : Int) := by omega
            have q2 : (i : Int) < (g.length : Int) := by omega
            obtain ⟨r, hr5, hvr⟩ := five_at (wrap64 (Int.tdiv v 4))
            have HW5 := Lib.hid (fun W => within9_any (wrap64 (Int.tdiv v 4)) 5 W (by omega) (by omega))
            rw [hvr] at HW5
            clear hvr
            have HW6 := HW5
            rw [← wrap_eq] at HW6
            have r1 : (0 : Int) ≤ (r : Int) := by omega
            have r2 : (r : Int) < 5 := by omega
            have hen := end_size r hr5
            have hnew := fun W => e5_new W r hr5
            obtain ⟨en, hee⟩ : ∃ en, en = mkB (endQ r) := ⟨_, rfl⟩
            rw [← hee] at hen hnew
            have f11 : ¬ 9223372036854775807 < s.size + bs.size + ta.size + bs.size + 1 + tb.size + bs.size + tc.size + bs.size + 1 + bs.size + en.size := by omega
            have HEE := Lib.hid hee
            clear hee
            have HSD := Lib.hid (keepD9 (y := x.add (i * 12)) (t := t) ⟨x0, x1, x2, x3, x4, x5, x6, x7, x8, x9, x10, x11⟩)
            have HSA := Lib.hid (keepAD9 (y := x.add (i * 12)) (t := t) ⟨x0, x1, x2, x3, x4, x5, x6, x7, x8, x9, x10, x11⟩)
            clear x0 x1 x2 x3 x4 x5 x6 x7 x8 x9 x10 x11
            obtain ⟨h1, h2, h3⟩ := HRr.out
            have HRn := Lib.hid (show (s ++ bs ++ ta ++ bs ++ ⟨#[32]⟩ ++ tb ++ bs ++ tc ++ bs ++ ⟨#[46]⟩ ++ bs ++ en) = mkB (docL (R ++ rowsQ b r t)) ∧ (∀ q ∈ R ++ rowsQ b r t, RowGood q) ∧ (R ++ rowsQ b r t).filterMap Prod.snd = g.take (i + 1) from by
              refine ⟨?_, ?_, ?_⟩
              · obtain ⟨e1, e2, e3, e4⟩ := HE.out
                have e5 := HEE.out
                have ed : docL (R ++ rowsQ b r t) = docL R ++ itemQ b r t := by
                  rw [← doc_rows b r t hr5]; simp [docL]
                rw [ed, h1, e1, e2, e3, e4, e5, show (⟨#[32]⟩ : ByteArray) = mkB [32] from rfl, show (⟨#[46]⟩ : ByteArray) = mkB [46] from rfl]
                simp only [mkB_app]
                congr 1
                simp [itemQ, bodyQ]
              · intro q hq
                rcases List.mem_append.1 hq with h | h
                · exact h2 q h
                · exact rows_good b r t hb4 hr5 HTO.out q h
              · rw [List.filterMap_append, h3, filter_rows, List.take_add_one, HT.out]; rfl)
            have hsz2 : (s ++ bs ++ ta ++ bs ++ ⟨#[32]⟩ ++ tb ++ bs ++ tc ++ bs ++ ⟨#[46]⟩ ++ bs ++ en).size ≤ 720 * (i + 1) := by
              simp only [ByteArray.size_append]
              have k1 : (⟨#[32]⟩ : ByteArray).size = 1 := rfl
              have k2 : (⟨#[46]⟩ : ByteArray).size = 1 := rfl
              omega
            have HSZ := Lib.hid hsz2
            clear h1 h2 h3 hsz2 HE
            go_upto_region 14 with fail
            refine wp_region_noPanic ?_
            refine wp_region_held_drew (S := fun w' => w'.cell? (x.add (i * 12)) = some (.int .i64 t.a.k) ∧ w'.cell? ⟨(x.add (i * 12)).block, (x.add (i * 12)).off + 1, none⟩ = some (.string ⟨t.a.s.toArray⟩) ∧ w'.cell? ⟨(x.add (i * 12)).block, (x.add (i * 12)).off + 2, none⟩ = some (.string ⟨t.a.la.toArray⟩) ∧ w'.cell? ⟨(x.add (i * 12)).block, (x.add (i * 12)).off + 3, none⟩ = some (.string ⟨t.a.ty.toArray⟩) ∧ w'.cell? ⟨(x.add (i * 12)).block, (x.add (i * 12)).off + 4, none⟩ = some (.int .i64 t.b.k) ∧ w'.cell? ⟨(x.add (i * 12)).block, (x.add (i * 12)).off + 5, none⟩ = some (.string ⟨t.b.s.toArray⟩) ∧ w'.cell? ⟨(x.add (i * 12)).block, (x.add (i * 12)).off + 6, none⟩ = some (.string ⟨t.b.la.toArray⟩) ∧ w'.cell? ⟨(x.add (i * 12)).block, (x.add (i * 12)).off + 7, none⟩ = some (.string ⟨t.b.ty.toArray⟩) ∧ w'.cell? ⟨(x.add (i * 12)).block, (x.add (i * 12)).off + 8, none⟩ = some (.int .i64 t.c.k) ∧ w'.cell? ⟨(x.add (i * 12)).block, (x.add (i * 12)).off + 9, none⟩ = some (.string ⟨t.c.s.toArray⟩) ∧ w'.cell? ⟨(x.add (i * 12)).block, (x.add (i * 12)).off + 10, none⟩ = some (.string ⟨t.c.la.toArray⟩) ∧ w'.cell? ⟨(x.add (i * 12)).block, (x.add (i * 12)).off + 11, none⟩ = some (.string ⟨t.c.ty.toArray⟩) ∧ Below w5.heap.size w5 w') (by kernel_rfl) HSD.out (fun hH0 => ?_)
            refine wpAnyH_take (i := 0) (oi := ({ dst := some 41, op := Go.Op.move (Go.Operand.tmp 6), type := 9, pos := "law.go:139", after := #[], guard := none } : Oper)) (v := ?_) rfl (by kernel_rfl) (by kernel_rfl) (by kernel_rfl) (fun _ _ _ h => h) (Or.inl ⟨by rfl, ?_⟩) hH0 ?_
            rotate_left 1
            · intro w hSw
              (try dsimp only at hSw)
              go_simp
              all_goals with_reducible rfl
            try simp only [Act.put, List.setIfInBounds_toArray, List.set_cons_zero, List.set_cons_succ]
            refine wpAnyH_take (i := 1) (oi := ({ dst := some 42, op := Go.Op.move (Go.Operand.tmp 9), type := 9, pos := "law.go:139", after := #[], guard := none } : Oper)) (v := ?_) rfl (by kernel_rfl) (by kernel_rfl) (by kernel_rfl) (fun _ _ _ h => h) (Or.inl ⟨by rfl, ?_⟩) hH0 ?_
            rotate_left 1
            · intro w hSw
              (try dsimp only at hSw)
              go_simp
              all_goals with_reducible rfl
            try simp only [Act.put, List.setIfInBounds_toArray, List.set_cons_zero, List.set_cons_succ]
            refine wpAnyH_take (i := 2) (oi := ({ dst := some 43, op := Go.Op.binOp Go.BinOp.add 9 (Go.Operand.tmp 41) (Go.Operand.tmp 42) 9, type := 9, pos := "law.go:139", after := #[{ on := 0, ground := Go.Ground.data }, { on := 1, ground := Go.Ground.data }], guard := none } : Oper)) (v := ?_) rfl (by kernel_rfl) (by kernel_rfl) (by kernel_rfl) (fun _ _ _ h => h) (Or.inl ⟨by rfl, ?_⟩) hH0 ?_
            rotate_left 1
            · intro w hSw
              (try dsimp only at hSw)
              go_simp
              all_goals with_reducible rfl
            try simp only [Act.put, List.setIfInBounds_toArray, List.set_cons_zero, List.set_cons_succ]
            refine wpAnyH_take (i := 3) (oi := ({ dst := some 44, op := Go.Op.move (Go.Operand.tmp 5), type := 34, pos := "law.go:139", after := #[], guard := none } : Oper)) (v := ?_) rfl (by kernel_rfl) (by kernel_rfl) (by kernel_rfl) (fun _ _ _ h => h) (Or.inl ⟨by rfl, ?_⟩) hH0 ?_
            rotate_left 1
            · intro w hSw
              (try dsimp only at hSw)
              go_simp
              all_goals with_reducible rfl
            try simp only [Act.put, List.setIfInBounds_toArray, List.set_cons_zero, List.set_cons_succ]
            refine wpAnyH_take (i := 4) (oi := ({ dst := some 45, op := Go.Op.move (Go.Operand.tmp 7), type := 3, pos := "law.go:139", after := #[], guard := none } : Oper)) (v := ?_) rfl (by kernel_rfl) (by kernel_rfl) (by kernel_rfl) (fun _ _ _ h => h) (Or.inl ⟨by rfl, ?_⟩) hH0 ?_
            rotate_left 1
            · intro w hSw
              (try dsimp only at hSw)
              go_simp
              all_goals with_reducible rfl
            try simp only [Act.put, List.setIfInBounds_toArray, List.set_cons_zero, List.set_cons_succ]
            refine wpAnyH_take (i := 5) (oi := ({ dst := some 46, op := Go.Op.indexAddr 34 (Go.Operand.tmp 44) (Go.Operand.tmp 45), type := 0, pos := "law.go:139", after := #[{ on := 3, ground := Go.Ground.data }, { on := 4, ground := Go.Ground.data }], guard := none } : Oper)) (v := ?_) rfl (by kernel_rfl) (by kernel_rfl) (by kernel_rfl) (fun _ _ _ h => h) (Or.inl ⟨by rfl, ?_⟩) hH0 ?_
            rotate_left 1
            · intro w hSw
              (try dsimp only at hSw)
              go_simp
              all_goals with_reducible rfl
            try simp only [Act.put, List.setIfInBounds_toArray, List.set_cons_zero, List.set_cons_succ]
            refine wpAnyH_take (i := 6) (oi := ({ dst := some 47, op := Go.Op.indexAddr 42 (Go.Operand.tmp 46) (Go.Operand.const (Go.Value.int Go.IntKind.i64 0)), type := 0, pos := "law.go:139", after := #[{ on := 5, ground := Go.Ground.data }], guard := none } : Oper)) (v := ?_) rfl (by kernel_rfl) (by kernel_rfl) (by kernel_rfl) (fun _ _ _ h => h) (Or.inl ⟨by rfl, ?_⟩) hH0 ?_
            rotate_left 1
            · intro w hSw
              (try dsimp only at hSw)
              go_simp
              all_goals with_reducible rfl
            try simp only [Act.put, List.setIfInBounds_toArray, List.set_cons_zero, List.set_cons_succ]
            refine wpAnyH_take (i := 7) (oi := ({ dst := some 48, op := Go.Op.load 40 (Go.Operand.tmp 47), type := 40, pos := "law.go:139", after := #[{ on := 6, ground := Go.Ground.data }], guard := none } : Oper)) (v := ?_) rfl (by kernel_rfl) (by kernel_rfl) (by kernel_rfl) (fun _ _ _ h => h) (Or.inl ⟨by rfl, ?_⟩) hH0 ?_
            rotate_left 1
            · intro w hSw
              (try dsimp only at hSw)
              go_simp
              all_goals with_reducible rfl
            try simp only [Act.put, List.setIfInBounds_toArray, List.set_cons_zero, List.set_cons_succ]
            refine wpAnyH_take (i := 10) (oi := ({ dst := some 51, op := Go.Op.move (Go.Operand.tmp 9), type := 9, pos := "law.go:139", after := #[], guard := none } : Oper)) (v := ?_) rfl (by kernel_rfl) (by kernel_rfl) (by kernel_rfl) (fun _ _ _ h => h) (Or.inl ⟨by rfl, ?_⟩) hH0 ?_
            rotate_left 1
            · intro w hSw
              (try dsimp only at hSw)
              go_simp
              all_goals with_reducible rfl
            try simp only [Act.put, List.setIfInBounds_toArray, List.set_cons_zero, List.set_cons_succ]
            refine wpAnyH_take (i := 13) (oi := ({ dst := some 54, op := Go.Op.move (Go.Operand.tmp 5), type := 34, pos := "law.go:139", after := #[], guard := none } : Oper)) (v := ?_) rfl (by kernel_rfl) (by kernel_rfl) (by kernel_rfl) (fun _ _ _ h => h) (Or.inl ⟨by rfl, ?_⟩) hH0 ?_
            rotate_left 1
            · intro w hSw
              (try dsimp only at hSw)
              go_simp
              all_goals with_reducible rfl
            try simp only [Act.put, List.setIfInBounds_toArray, List.set_cons_zero, List.set_cons_succ]
            refine wpAnyH_take (i := 14) (oi := ({ dst := some 55, op := Go.Op.move (Go.Operand.tmp 7), type := 3, pos := "law.go:139", after := #[], guard := none } : Oper)) (v := ?_) rfl (by kernel_rfl) (by kernel_rfl) (by kernel_rfl) (fun _ _ _ h => h) (Or.inl ⟨by rfl, ?_⟩) hH0 ?_
            rotate_left 1
            · intro w hSw
              (try dsimp only at hSw)
              go_simp
              all_goals with_reducible rfl
            try simp only [Act.put, List.setIfInBounds_toArray, List.set_cons_zero, List.set_cons_succ]
            refine wpAnyH_take (i := 15) (oi := ({ dst := some 56, op := Go.Op.indexAddr 34 (Go.Operand.tmp 54) (Go.Operand.tmp 55), type := 0, pos := "law.go:139", after := #[{ on := 13, ground := Go.Ground.data }, { on := 14, ground := Go.Ground.data }], guard := none } : Oper)) (v := ?_) rfl (by kernel_rfl) (by kernel_rfl) (by kernel_rfl) (fun _ _ _ h => h) (Or.inl ⟨by rfl, ?_⟩) hH0 ?_
            rotate_left 1
            · intro w hSw
              (try dsimp only at hSw)
              go_simp
              all_goals with_reducible rfl
            try simp only [Act.put, List.setIfInBounds_toArray, List.set_cons_zero, List.set_cons_succ]
            refine wpAnyH_take (i := 16) (oi := ({ dst := some 57, op := Go.Op.indexAddr 42 (Go.Operand.tmp 56) (Go.Operand.const (Go.Value.int Go.IntKind.i64 1)), type := 0, pos := "law.go:139", after := #[{ on := 15, ground := Go.Ground.data }], guard := none } : Oper)) (v := ?_) rfl (by kernel_rfl) (by kernel_rfl) (by kernel_rfl) (fun _ _ _ h => h) (Or.inl ⟨by rfl, ?_⟩) hH0 ?_
            rotate_left 1
            · intro w hSw
              (try dsimp only at hSw)
              go_simp
              all_goals with_reducible rfl
            try simp only [Act.put, List.setIfInBounds_toArray, List.set_cons_zero, List.set_cons_succ]
            refine wpAnyH_take (i := 17) (oi := ({ dst := some 58, op := Go.Op.load 40 (Go.Operand.tmp 57), type := 40, pos := "law.go:139", after := #[{ on := 16, ground := Go.Ground.data }], guard := none } : Oper)) (v := ?_) rfl (by kernel_rfl) (by kernel_rfl) (by kernel_rfl) (fun _ _ _ h => h) (Or.inl ⟨by rfl, ?_⟩) hH0 ?_
            rotate_left 1
            · intro w hSw
              (try dsimp only at hSw)
              go_simp
              all_goals with_reducible rfl
            try simp only [Act.put, List.setIfInBounds_toArray, List.set_cons_zero, List.set_cons_succ]
            refine wpAnyH_take (i := 20) (oi := ({ dst := some 61, op := Go.Op.move (Go.Operand.tmp 9), type := 9, pos := "law.go:139", after := #[], guard := none } : Oper)) (v := ?_) rfl (by kernel_rfl) (by kernel_rfl) (by kernel_rfl) (fun _ _ _ h => h) (Or.inl ⟨by rfl, ?_⟩) hH0 ?_
            rotate_left 1
            · intro w hSw
              (try dsimp only at hSw)
              go_simp
              all_goals with_reducible rfl
            try simp only [Act.put, List.setIfInBounds_toArray, List.set_cons_zero, List.set_cons_succ]
            refine wpAnyH_take (i := 22) (oi := ({ dst := some 63, op := Go.Op.move (Go.Operand.tmp 5), type := 34, pos := "law.go:139", after := #[], guard := none } : Oper)) (v := ?_) rfl (by kernel_rfl) (by kernel_rfl) (by kernel_rfl) (fun _ _ _ h => h) (Or.inl ⟨by rfl, ?_⟩) hH0 ?_
            rotate_left 1
            · intro w hSw
              (try dsimp only at hSw)
              go_simp
              all_goals with_reducible rfl
            try simp only [Act.put, List.setIfInBounds_toArray, List.set_cons_zero, List.set_cons_succ]
            refine wpAnyH_take (i := 23) (oi := ({ dst := some 64, op := Go.Op.move (Go.Operand.tmp 7), type := 3, pos := "law.go:139", after := #[], guard := none } : Oper)) (v := ?_) rfl (by kernel_rfl) (by kernel_rfl) (by kernel_rfl) (fun _ _ _ h => h) (Or.inl ⟨by rfl, ?_⟩) hH0 ?_
            rotate_left 1
            · intro w hSw
              (try dsimp only at hSw)
              go_simp
              all_goals with_reducible rfl
            try simp only [Act.put, List.setIfInBounds_toArray, List.set_cons_zero, List.set_cons_succ]
            refine wpAnyH_take (i := 24) (oi := ({ dst := some 65, op := Go.Op.indexAddr 34 (Go.Operand.tmp 63) (Go.Operand.tmp 64), type := 0, pos := "law.go:139", after := #[{ on := 22, ground := Go.Ground.data }, { on := 23, ground := Go.Ground.data }], guard := none } : Oper)) (v := ?_) rfl (by kernel_rfl) (by kernel_rfl) (by kernel_rfl) (fun _ _ _ h => h) (Or.inl ⟨by rfl, ?_⟩) hH0 ?_
            rotate_left 1
            · intro w hSw
              (try dsimp only at hSw)
              go_simp
              all_goals with_reducible rfl
            try simp only [Act.put, List.setIfInBounds_toArray, List.set_cons_zero, List.set_cons_succ]
            refine wpAnyH_take (i := 25) (oi := ({ dst := some 66, op := Go.Op.indexAddr 42 (Go.Operand.tmp 65) (Go.Operand.const (Go.Value.int Go.IntKind.i64 2)), type := 0, pos := "law.go:139", after := #[{ on := 24, ground := Go.Ground.data }], guard := none } : Oper)) (v := ?_) rfl (by kernel_rfl) (by kernel_rfl) (by kernel_rfl) (fun _ _ _ h => h) (Or.inl ⟨by rfl, ?_⟩) hH0 ?_
            rotate_left 1
            · intro w hSw
              (try dsimp only at hSw)
              go_simp
              all_goals with_reducible rfl
            try simp only [Act.put, List.setIfInBounds_toArray, List.set_cons_zero, List.set_cons_succ]
            refine wpAnyH_take (i := 26) (oi := ({ dst := some 67, op := Go.Op.load 40 (Go.Operand.tmp 66), type := 40, pos := "law.go:139", after := #[{ on := 25, ground := Go.Ground.data }], guard := none } : Oper)) (v := ?_) rfl (by kernel_rfl) (by kernel_rfl) (by kernel_rfl) (fun _ _ _ h => h) (Or.inl ⟨by rfl, ?_⟩) hH0 ?_
            rotate_left 1
            · intro w hSw
              (try dsimp only at hSw)
              go_simp
              all_goals with_reducible rfl
            try simp only [Act.put, List.setIfInBounds_toArray, List.set_cons_zero, List.set_cons_succ]
            refine wpAnyH_take (i := 29) (oi := ({ dst := some 70, op := Go.Op.move (Go.Operand.tmp 9), type := 9, pos := "law.go:139", after := #[], guard := none } : Oper)) (v := ?_) rfl (by kernel_rfl) (by kernel_rfl) (by kernel_rfl) (fun _ _ _ h => h) (Or.inl ⟨by rfl, ?_⟩) hH0 ?_
            rotate_left 1
            · intro w hSw
              (try dsimp only at hSw)
              go_simp
              all_goals with_reducible rfl
            try simp only [Act.put, List.setIfInBounds_toArray, List.set_cons_zero, List.set_cons_succ]
            refine wpAnyH_take (i := 32) (oi := ({ dst := some 73, op := Go.Op.move (Go.Operand.tmp 9), type := 9, pos := "law.go:139", after := #[], guard := none } : Oper)) (v := ?_) rfl (by kernel_rfl) (by kernel_rfl) (by kernel_rfl) (fun _ _ _ h => h) (Or.inl ⟨by rfl, ?_⟩) hH0 ?_
            rotate_left 1
            · intro w hSw
              (try dsimp only at hSw)
              go_simp
              all_goals with_reducible rfl
            try simp only [Act.put, List.setIfInBounds_toArray, List.set_cons_zero, List.set_cons_succ]
            refine wpAnyH_take (i := 35) (oi := ({ dst := some 76, op := Go.Op.move (Go.Operand.tmp 8), type := 3, pos := "law.go:139", after := #[], guard := none } : Oper)) (v := ?_) rfl (by kernel_rfl) (by kernel_rfl) (by kernel_rfl) (fun _ _ _ h => h) (Or.inl ⟨by rfl, ?_⟩) hH0 ?_
            rotate_left 1
            · intro w hSw
              (try dsimp only at hSw)
              go_simp
              all_goals with_reducible rfl
            try simp only [Act.put, List.setIfInBounds_toArray, List.set_cons_zero, List.set_cons_succ]
            refine wpAnyH_take (i := 36) (oi := ({ dst := some 77, op := Go.Op.binOp Go.BinOp.quo 3 (Go.Operand.tmp 76) (Go.Operand.const (Go.Value.int Go.IntKind.i64 4)) 3, type := 3, pos := "law.go:139", after := #[{ on := 35, ground := Go.Ground.data }], guard := none } : Oper)) (v := ?_) rfl (by kernel_rfl) (by kernel_rfl) (by kernel_rfl) (fun _ _ _ h => h) (Or.inl ⟨by rfl, ?_⟩) hH0 ?_
            rotate_left 1
            · intro w hSw
              (try dsimp only at hSw)
              go_simp
              all_goals with_reducible rfl
            try simp only [Act.put, List.setIfInBounds_toArray, List.set_cons_zero, List.set_cons_succ]
            refine wpAnyH_ready (rs := [8, 34]) (by kernel_rfl) (by simp) ?_
            refine AllReadyH.cons (o := ({ dst := some 49, op := Go.Op.call { callee := Go.Callee.value (Go.Operand.func 15), args := #[Go.Operand.tmp 48], argTypes := #[40] }, type := 9, pos := "law.go:139", after := #[{ on := 7, ground := Go.Ground.data }], guard := none } : Oper)) rfl (fun K hK => ?_) ?_
            · go_simp
              go_at_call 15
              with_reducible refine (HTA.out _).mono ?_
              rintro e w1 ⟨rfl, hb⟩
              (first | ((with_reducible refine e5K hr5 hb ?_); rintro ⟨zw, zc⟩; rw [← HEE.out] at zc) | ((with_reducible refine e5L hr5 (by assumption) hb ?_); rintro ⟨zw, zc⟩; rw [← HEE.out] at zc) | ((with_reducible refine e5D hr5 hb ?_); rintro ⟨zw, zc⟩; rw [← HEE.out] at zc) | skip)
              try dsimp only
              refine hK.out _ _ ?_ (fun hH1 => ?_)
              · exact keepC9 hH0 hb
              clear hK K hH0
              try simp only [Act.put, List.setIfInBounds_toArray, List.set_cons_zero, List.set_cons_succ]
              refine wpAnyH_take (i := 9) (oi := ({ dst := some 50, op := Go.Op.binOp Go.BinOp.add 9 (Go.Operand.tmp 43) (Go.Operand.tmp 49) 9, type := 9, pos := "law.go:139", after := #[{ on := 2, ground := Go.Ground.data }, { on := 8, ground := Go.Ground.data }], guard := none } : Oper)) (v := ?_) rfl (by kernel_rfl) (by kernel_rfl) (by kernel_rfl) (fun _ _ _ h => h) (Or.inl ⟨by rfl, ?_⟩) hH1 ?_
              rotate_left 1
              · intro w hSw
                (try dsimp only at hSw)
                go_simp
                all_goals with_reducible rfl
              try simp only [Act.put, List.setIfInBounds_toArray, List.set_cons_zero, List.set_cons_succ]
              refine wpAnyH_take (i := 11) (oi := ({ dst := some 52, op := Go.Op.binOp Go.BinOp.add 9 (Go.Operand.tmp 50) (Go.Operand.tmp 51) 9, type := 9, pos := "law.go:139", after := #[{ on := 9, ground := Go.Ground.data }, { on := 10, ground := Go.Ground.data }], guard := none } : Oper)) (v := ?_) rfl (by kernel_rfl) (by kernel_rfl) (by kernel_rfl) (fun _ _ _ h => h) (Or.inl ⟨by rfl, ?_⟩) hH1 ?_
              rotate_left 1
              · intro w hSw
                (try dsimp only at hSw)
                go_simp
                all_goals with_reducible rfl
              try simp only [Act.put, List.setIfInBounds_toArray, List.set_cons_zero, List.set_cons_succ]
              refine wpAnyH_take (i := 12) (oi := ({ dst := some 53, op := Go.Op.binOp Go.BinOp.add 9 (Go.Operand.tmp 52) (Go.Operand.const (Go.Value.string { data := #[32] })) 9, type := 9, pos := "law.go:139", after := #[{ on := 11, ground := Go.Ground.data }], guard := none } : Oper)) (v := ?_) rfl (by kernel_rfl) (by kernel_rfl) (by kernel_rfl) (fun _ _ _ h => h) (Or.inl ⟨by rfl, ?_⟩) hH1 ?_
              rotate_left 1
              · intro w hSw
                (try dsimp only at hSw)
                go_simp
                all_goals with_reducible rfl
              try simp only [Act.put, List.setIfInBounds_toArray, List.set_cons_zero, List.set_cons_succ]
              refine wpAnyH_ready (rs := [18, 34]) (by kernel_rfl) (by simp) ?_
              refine AllReadyH.cons (o := ({ dst := some 59, op := Go.Op.call { callee := Go.Callee.value (Go.Operand.func 15), args := #[Go.Operand.tmp 58], argTypes := #[40] }, type := 9, pos := "law.go:139", after := #[{ on := 17, ground := Go.Ground.data }, { on := 8, ground := Go.Ground.chain }], guard := none } : Oper)) rfl (fun K hK => ?_) ?_
              · go_simp
                go_at_call 15
                with_reducible refine (HTB.out _).mono ?_
                rintro e w1 ⟨rfl, hb⟩
                (first | ((with_reducible refine e5K hr5 hb ?_); rintro ⟨zw, zc⟩; rw [← HEE.out] at zc) | ((with_reducible refine e5L hr5 (by assumption) hb ?_); rintro ⟨zw, zc⟩; rw [← HEE.out] at zc) | ((with_reducible refine e5D hr5 hb ?_); rintro ⟨zw, zc⟩; rw [← HEE.out] at zc) | skip)
                try dsimp only
                refine hK.out _ _ ?_ (fun hH2 => ?_)
                · exact keepC9 hH1 hb
                clear hK K hH1
                try simp only [Act.put, List.setIfInBounds_toArray, List.set_cons_zero, List.set_cons_succ]
                refine wpAnyH_take (i := 19) (oi := ({ dst := some 60, op := Go.Op.binOp Go.BinOp.add 9 (Go.Operand.tmp 53) (Go.Operand.tmp 59) 9, type := 9, pos := "law.go:139", after := #[{ on := 12, ground := Go.Ground.data }, { on := 18, ground := Go.Ground.data }], guard := none } : Oper)) (v := ?_) rfl (by kernel_rfl) (by kernel_rfl) (by kernel_rfl) (fun _ _ _ h => h) (Or.inl ⟨by rfl, ?_⟩) hH2 ?_
                rotate_left 1
                · intro w hSw
                  (try dsimp only at hSw)
                  go_simp
                  all_goals with_reducible rfl
                try simp only [Act.put, List.setIfInBounds_toArray, List.set_cons_zero, List.set_cons_succ]
                refine wpAnyH_take (i := 21) (oi := ({ dst := some 62, op := Go.Op.binOp Go.BinOp.add 9 (Go.Operand.tmp 60) (Go.Operand.tmp 61) 9, type := 9, pos := "law.go:139", after := #[{ on := 19, ground := Go.Ground.data }, { on := 20, ground := Go.Ground.data }], guard := none } : Oper)) (v := ?_) rfl (by kernel_rfl) (by kernel_rfl) (by kernel_rfl) (fun _ _ _ h => h) (Or.inl ⟨by rfl, ?_⟩) hH2 ?_
                rotate_left 1
                · intro w hSw
                  (try dsimp only at hSw)
                  go_simp
                  all_goals with_reducible rfl
                try simp only [Act.put, List.setIfInBounds_toArray, List.set_cons_zero, List.set_cons_succ]
                refine wpAnyH_ready (rs := [27, 34]) (by kernel_rfl) (by simp) ?_
                refine AllReadyH.cons (o := ({ dst := some 68, op := Go.Op.call { callee := Go.Callee.value (Go.Operand.func 15), args := #[Go.Operand.tmp 67], argTypes := #[40] }, type := 9, pos := "law.go:139", after := #[{ on := 26, ground := Go.Ground.data }, { on := 18, ground := Go.Ground.chain }], guard := none } : Oper)) rfl (fun K hK => ?_) ?_
                · go_simp
                  go_at_call 15
                  with_reducible refine (HTC.out _).mono ?_
                  rintro e w1 ⟨rfl, hb⟩
                  (first | ((with_reducible refine e5K hr5 hb ?_); rintro ⟨zw, zc⟩; rw [← HEE.out] at zc) | ((with_reducible refine e5L hr5 (by assumption) hb ?_); rintro ⟨zw, zc⟩; rw [← HEE.out] at zc) | ((with_reducible refine e5D hr5 hb ?_); rintro ⟨zw, zc⟩; rw [← HEE.out] at zc) | skip)
                  try dsimp only
                  refine hK.out _ _ ?_ (fun hH3 => ?_)
                  · exact keepC9 hH2 hb
                  clear hK K hH2
                  try simp only [Act.put, List.setIfInBounds_toArray, List.set_cons_zero, List.set_cons_succ]
                  refine wpAnyH_take (i := 28) (oi := ({ dst := some 69, op := Go.Op.binOp Go.BinOp.add 9 (Go.Operand.tmp 62) (Go.Operand.tmp 68) 9, type := 9, pos := "law.go:139", after := #[{ on := 21, ground := Go.Ground.data }, { on := 27, ground := Go.Ground.data }], guard := none } : Oper)) (v := ?_) rfl (by kernel_rfl) (by kernel_rfl) (by kernel_rfl) (fun _ _ _ h => h) (Or.inl ⟨by rfl, ?_⟩) hH3 ?_
                  rotate_left 1
                  · intro w hSw
                    (try dsimp only at hSw)
                    go_simp
                    all_goals with_reducible rfl
                  try simp only [Act.put, List.setIfInBounds_toArray, List.set_cons_zero, List.set_cons_succ]
                  refine wpAnyH_take (i := 30) (oi := ({ dst := some 71, op := Go.Op.binOp Go.BinOp.add 9 (Go.Operand.tmp 69) (Go.Operand.tmp 70) 9, type := 9, pos := "law.go:139", after := #[{ on := 28, ground := Go.Ground.data }, { on := 29, ground := Go.Ground.data }], guard := none } : Oper)) (v := ?_) rfl (by kernel_rfl) (by kernel_rfl) (by kernel_rfl) (fun _ _ _ h => h) (Or.inl ⟨by rfl, ?_⟩) hH3 ?_
                  rotate_left 1
                  · intro w hSw
                    (try dsimp only at hSw)
                    go_simp
                    all_goals with_reducible rfl
                  try simp only [Act.put, List.setIfInBounds_toArray, List.set_cons_zero, List.set_cons_succ]
                  refine wpAnyH_take (i := 31) (oi := ({ dst := some 72, op := Go.Op.binOp Go.BinOp.add 9 (Go.Operand.tmp 71) (Go.Operand.const (Go.Value.string { data := #[46] })) 9, type := 9, pos := "law.go:139", after := #[{ on := 30, ground := Go.Ground.data }], guard := none } : Oper)) (v := ?_) rfl (by kernel_rfl) (by kernel_rfl) (by kernel_rfl) (fun _ _ _ h => h) (Or.inl ⟨by rfl, ?_⟩) hH3 ?_
                  rotate_left 1
                  · intro w hSw
                    (try dsimp only at hSw)
                    go_simp
                    all_goals with_reducible rfl
                  try simp only [Act.put, List.setIfInBounds_toArray, List.set_cons_zero, List.set_cons_succ]
                  refine wpAnyH_take (i := 33) (oi := ({ dst := some 74, op := Go.Op.binOp Go.BinOp.add 9 (Go.Operand.tmp 72) (Go.Operand.tmp 73) 9, type := 9, pos := "law.go:139", after := #[{ on := 31, ground := Go.Ground.data }, { on := 32, ground := Go.Ground.data }], guard := none } : Oper)) (v := ?_) rfl (by kernel_rfl) (by kernel_rfl) (by kernel_rfl) (fun _ _ _ h => h) (Or.inl ⟨by rfl, ?_⟩) hH3 ?_
                  rotate_left 1
                  · intro w hSw
                    (try dsimp only at hSw)
                    go_simp
                    all_goals with_reducible rfl
                  try simp only [Act.put, List.setIfInBounds_toArray, List.set_cons_zero, List.set_cons_succ]
                  refine wpAnyH_ready (rs := [34, 37]) (by kernel_rfl) (by simp) ?_
                  refine AllReadyH.cons (o := ({ dst := some 75, op := Go.Op.buildSlice 25 5 #[(0, Go.Operand.const (Go.Value.string { data := #[10] })), (1, Go.Operand.const (Go.Value.string { data := #[35, 32, 99, 10] })), (2, Go.Operand.const (Go.Value.string { data := #[13, 10] })), (3, Go.Operand.const (Go.Value.string { data := #[10, 10] })), (4, Go.Operand.const (Go.Value.string { data := #[10, 32, 35, 32, 100, 32, 46, 32, 10] }))], type := 25, pos := "law.go:139", after := #[], guard := none } : Oper)) rfl (fun K hK => ?_) ?_
                  · go_simp
                    refine hK.out _ _ ?_ (fun hH4 => ?_)
                    · first | (with_reducible exact HSA.out _) | (with_reducible exact keepA9 _ hH3)
                    clear hK K hH3
                    try simp only [Act.put, List.setIfInBounds_toArray, List.set_cons_zero, List.set_cons_succ]
                    refine wpAnyH_ready (rs := [37]) (by kernel_rfl) (by simp) ?_
                    refine AllReadyH.cons (o := ({ dst := some 78, op := Go.Op.call { callee := Go.Callee.value (Go.Operand.func 14), args := #[Go.Operand.tmp 77, Go.Operand.const (Go.Value.int Go.IntKind.i64 5)], argTypes := #[3, 3] }, type := 3, pos := "law.go:139", after := #[{ on := 36, ground := Go.Ground.data }, { on := 27, ground := Go.Ground.chain }], guard := none } : Oper)) rfl (fun K hK => ?_) ?_
                    · go_simp
                      go_at_call 14
                      first | (with_reducible refine (HW5.out _).mono ?_) | (with_reducible refine (HW6.out _).mono ?_)
                      rintro e w1 ⟨rfl, rfl⟩
                      try dsimp only
                      refine hK.out _ _ ?_ (fun hH5 => ?_)
                      · exact hH4
                      clear hK K hH4
                      try simp only [Act.put, List.setIfInBounds_toArray, List.set_cons_zero, List.set_cons_succ]
                      refine wpAnyH_take (i := 38) (oi := ({ dst := some 79, op := Go.Op.indexAddr 25 (Go.Operand.tmp 75) (Go.Operand.tmp 78), type := 0, pos := "law.go:139", after := #[{ on := 34, ground := Go.Ground.data }, { on := 37, ground := Go.Ground.data }], guard := none } : Oper)) (v := ?_) rfl (by kernel_rfl) (by kernel_rfl) (by kernel_rfl) (fun _ _ _ h => h) (Or.inl ⟨by rfl, ?_⟩) hH5 ?_
                      rotate_left 1
                      · intro w hSw
                        (try dsimp only at hSw)
                        go_simp
                        all_goals with_reducible rfl
                      try simp only [Act.put, List.setIfInBounds_toArray, List.set_cons_zero, List.set_cons_succ]
                      refine wpAnyH_ready (rs := [39]) (by kernel_rfl) (by simp) ?_
                      refine AllReadyH.cons (o := ({ dst := some 80, op := Go.Op.load 9 (Go.Operand.tmp 79), type := 9, pos := "law.go:139", after := #[{ on := 38, ground := Go.Ground.data }], guard := none } : Oper)) rfl (fun K hK => ?_) ?_
                      · go_simp
                        refine hK.out _ _ ?_ (fun hH6 => ?_)
                        · exact hH5
                        clear hK K hH5
                        try simp only [Act.put, List.setIfInBounds_toArray, List.set_cons_zero, List.set_cons_succ]
                        refine wpAnyH_take (i := 40) (oi := ({ dst := some 81, op := Go.Op.binOp Go.BinOp.add 9 (Go.Operand.tmp 74) (Go.Operand.tmp 80) 9, type := 9, pos := "law.go:139", after := #[{ on := 33, ground := Go.Ground.data }, { on := 39, ground := Go.Ground.data }], guard := none } : Oper)) (v := ?_) rfl (by kernel_rfl) (by kernel_rfl) (by kernel_rfl) (fun _ _ _ h => h) (Or.inl ⟨by rfl, ?_⟩) hH6 ?_
                        rotate_left 1
                        · intro w hSw
                          (try dsimp only at hSw)
                          go_simp
                          all_goals with_reducible rfl
                        try simp only [Act.put, List.setIfInBounds_toArray, List.set_cons_zero, List.set_cons_succ]
                        refine wpAnyH_take (i := 41) (oi := ({ dst := some 6, op := Go.Op.assign (Go.Operand.tmp 81), type := 9, pos := "law.go:139", after := #[{ on := 40, ground := Go.Ground.data }, { on := 37, ground := Go.Ground.chain }, { on := 0, ground := Go.Ground.phase }, { on := 1, ground := Go.Ground.phase }, { on := 2, ground := Go.Ground.phase }, { on := 3, ground := Go.Ground.phase }, { on := 4, ground := Go.Ground.phase }, { on := 5, ground := Go.Ground.phase }, { on := 6, ground := Go.Ground.phase }, { on := 7, ground := Go.Ground.phase }, { on := 8, ground := Go.Ground.phase }, { on := 9, ground := Go.Ground.phase }, { on := 10, ground := Go.Ground.phase }, { on := 11, ground := Go.Ground.phase }, { on := 12, ground := Go.Ground.phase }, { on := 13, ground := Go.Ground.phase }, { on := 14, ground := Go.Ground.phase }, { on := 15, ground := Go.Ground.phase }, { on := 16, ground := Go.Ground.phase }, { on := 17, ground := Go.Ground.phase }, { on := 18, ground := Go.Ground.phase }, { on := 19, ground := Go.Ground.phase }, { on := 20, ground := Go.Ground.phase }, { on := 21, ground := Go.Ground.phase }, { on := 22, ground := Go.Ground.phase }, { on := 23, ground := Go.Ground.phase }, { on := 24, ground := Go.Ground.phase }, { on := 25, ground := Go.Ground.phase }, { on := 26, ground := Go.Ground.phase }, { on := 27, ground := Go.Ground.phase }, { on := 28, ground := Go.Ground.phase }, { on := 29, ground := Go.Ground.phase }, { on := 30, ground := Go.Ground.phase }, { on := 31, ground := Go.Ground.phase }, { on := 32, ground := Go.Ground.phase }, { on := 33, ground := Go.Ground.phase }, { on := 34, ground := Go.Ground.phase }, { on := 35, ground := Go.Ground.phase }, { on := 36, ground := Go.Ground.phase }, { on := 37, ground := Go.Ground.phase }, { on := 38, ground := Go.Ground.phase }, { on := 39, ground := Go.Ground.phase }, { on := 40, ground := Go.Ground.phase }], guard := none } : Oper)) (v := ?_) rfl (by kernel_rfl) (by kernel_rfl) (by kernel_rfl) (fun _ _ _ h => h) (Or.inl ⟨by rfl, ?_⟩) hH6 ?_
                        rotate_left 1
                        · intro w hSw
                          (try dsimp only at hSw)
                          go_simp
                          all_goals with_reducible rfl
                        try simp only [Act.put, List.setIfInBounds_toArray, List.set_cons_zero, List.set_cons_succ]
                        refine wpAnyH_done (by kernel_rfl) ?_ _
                        refine NoPanic.normal ?_
                        go_wp2_with fail
                        go_meet
                        exact ⟨_, _, rfl, HSZ.out, HRn, Lib.hid (HB5.out.trans ((keepBel9 hH6).mono HB5.out.size))⟩
                      exact AllReadyH.nil
                    exact AllReadyH.nil
                  refine AllReadyH.cons (o := ({ dst := some 78, op := Go.Op.call { callee := Go.Callee.value (Go.Operand.func 14), args := #[Go.Operand.tmp 77, Go.Operand.const (Go.Value.int Go.IntKind.i64 5)], argTypes := #[3, 3] }, type := 3, pos := "law.go:139", after := #[{ on := 36, ground := Go.Ground.data }, { on := 27, ground := Go.Ground.chain }], guard := none } : Oper)) rfl (fun K hK => ?_) ?_
                  · go_simp
                    go_at_call 14
                    first | (with_reducible refine (HW5.out _).mono ?_) | (with_reducible refine (HW6.out _).mono ?_)
                    rintro e w1 ⟨rfl, rfl⟩
                    try dsimp only
                    refine hK.out _ _ ?_ (fun hH4 => ?_)
                    · exact hH3
                    clear hK K hH3
                    try simp only [Act.put, List.setIfInBounds_toArray, List.set_cons_zero, List.set_cons_succ]
                    refine wpAnyH_ready (rs := [34]) (by kernel_rfl) (by simp) ?_
                    refine AllReadyH.cons (o := ({ dst := some 75, op := Go.Op.buildSlice 25 5 #[(0, Go.Operand.const (Go.Value.string { data := #[10] })), (1, Go.Operand.const (Go.Value.string { data := #[35, 32, 99, 10] })), (2, Go.Operand.const (Go.Value.string { data := #[13, 10] })), (3, Go.Operand.const (Go.Value.string { data := #[10, 10] })), (4, Go.Operand.const (Go.Value.string { data := #[10, 32, 35, 32, 100, 32, 46, 32, 10] }))], type := 25, pos := "law.go:139", after := #[], guard := none } : Oper)) rfl (fun K hK => ?_) ?_
                    · go_simp
                      refine hK.out _ _ ?_ (fun hH5 => ?_)
                      · first | (with_reducible exact HSA.out _) | (with_reducible exact keepA9 _ hH4)
                      clear hK K hH4
                      try simp only [Act.put, List.setIfInBounds_toArray, List.set_cons_zero, List.set_cons_succ]
                      refine wpAnyH_take (i := 38) (oi := ({ dst := some 79, op := Go.Op.indexAddr 25 (Go.Operand.tmp 75) (Go.Operand.tmp 78), type := 0, pos := "law.go:139", after := #[{ on := 34, ground := Go.Ground.data }, { on := 37, ground := Go.Ground.data }], guard := none } : Oper)) (v := ?_) rfl (by kernel_rfl) (by kernel_rfl) (by kernel_rfl) (fun _ _ _ h => h) (Or.inl ⟨by rfl, ?_⟩) hH5 ?_
                      rotate_left 1
                      · intro w hSw
                        (try dsimp only at hSw)
                        go_simp
                        all_goals with_reducible rfl
                      try simp only [Act.put, List.setIfInBounds_toArray, List.set_cons_zero, List.set_cons_succ]
                      refine wpAnyH_ready (rs := [39]) (by kernel_rfl) (by simp) ?_
                      refine AllReadyH.cons (o := ({ dst := some 80, op := Go.Op.load 9 (Go.Operand.tmp 79), type := 9, pos := "law.go:139", after := #[{ on := 38, ground := Go.Ground.data }], guard := none } : Oper)) rfl (fun K hK => ?_) ?_
                      · go_simp
                        refine hK.out _ _ ?_ (fun hH6 => ?_)
                        · exact hH5
                        clear hK K hH5
                        try simp only [Act.put, List.setIfInBounds_toArray, List.set_cons_zero, List.set_cons_succ]
                        refine wpAnyH_take (i := 40) (oi := ({ dst := some 81, op := Go.Op.binOp Go.BinOp.add 9 (Go.Operand.tmp 74) (Go.Operand.tmp 80) 9, type := 9, pos := "law.go:139", after := #[{ on := 33, ground := Go.Ground.data }, { on := 39, ground := Go.Ground.data }], guard := none } : Oper)) (v := ?_) rfl (by kernel_rfl) (by kernel_rfl) (by kernel_rfl) (fun _ _ _ h => h) (Or.inl ⟨by rfl, ?_⟩) hH6 ?_
                        rotate_left 1
                        · intro w hSw
                          (try dsimp only at hSw)
                          go_simp
                          all_goals with_reducible rfl
                        try simp only [Act.put, List.setIfInBounds_toArray, List.set_cons_zero, List.set_cons_succ]
                        refine wpAnyH_take (i := 41) (oi := ({ dst := some 6, op := Go.Op.assign (Go.Operand.tmp 81), type := 9, pos := "law.go:139", after := #[{ on := 40, ground := Go.Ground.data }, { on := 37, ground := Go.Ground.chain }, { on := 0, ground := Go.Ground.phase }, { on := 1, ground := Go.Ground.phase }, { on := 2, ground := Go.Ground.phase }, { on := 3, ground := Go.Ground.phase }, { on := 4, ground := Go.Ground.phase }, { on := 5, ground := Go.Ground.phase }, { on := 6, ground := Go.Ground.phase }, { on := 7, ground := Go.Ground.phase }, { on := 8, ground := Go.Ground.phase }, { on := 9, ground := Go.Ground.phase }, { on := 10, ground := Go.Ground.phase }, { on := 11, ground := Go.Ground.phase }, { on := 12, ground := Go.Ground.phase }, { on := 13, ground := Go.Ground.phase }, { on := 14, ground := Go.Ground.phase }, { on := 15, ground := Go.Ground.phase }, { on := 16, ground := Go.Ground.phase }, { on := 17, ground := Go.Ground.phase }, { on := 18, ground := Go.Ground.phase }, { on := 19, ground := Go.Ground.phase }, { on := 20, ground := Go.Ground.phase }, { on := 21, ground := Go.Ground.phase }, { on := 22, ground := Go.Ground.phase }, { on := 23, ground := Go.Ground.phase }, { on := 24, ground := Go.Ground.phase }, { on := 25, ground := Go.Ground.phase }, { on := 26, ground := Go.Ground.phase }, { on := 27, ground := Go.Ground.phase }, { on := 28, ground := Go.Ground.phase }, { on := 29, ground := Go.Ground.phase }, { on := 30, ground := Go.Ground.phase }, { on := 31, ground := Go.Ground.phase }, { on := 32, ground := Go.Ground.phase }, { on := 33, ground := Go.Ground.phase }, { on := 34, ground := Go.Ground.phase }, { on := 35, ground := Go.Ground.phase }, { on := 36, ground := Go.Ground.phase }, { on := 37, ground := Go.Ground.phase }, { on := 38, ground := Go.Ground.phase }, { on := 39, ground := Go.Ground.phase }, { on := 40, ground := Go.Ground.phase }], guard := none } : Oper)) (v := ?_) rfl (by kernel_rfl) (by kernel_rfl) (by kernel_rfl) (fun _ _ _ h => h) (Or.inl ⟨by rfl, ?_⟩) hH6 ?_
                        rotate_left 1
                        · intro w hSw
                          (try dsimp only at hSw)
                          go_simp
                          all_goals with_reducible rfl
                        try simp only [Act.put, List.setIfInBounds_toArray, List.set_cons_zero, List.set_cons_succ]
                        refine wpAnyH_done (by kernel_rfl) ?_ _
                        refine NoPanic.normal ?_
                        go_wp2_with fail
                        go_meet
                        exact ⟨_, _, rfl, HSZ.out, HRn, Lib.hid (HB5.out.trans ((keepBel9 hH6).mono HB5.out.size))⟩
                      exact AllReadyH.nil
                    exact AllReadyH.nil
                  exact AllReadyH.nil
                refine AllReadyH.cons (o := ({ dst := some 75, op := Go.Op.buildSlice 25 5 #[(0, Go.Operand.const (Go.Value.string { data := #[10] })), (1, Go.Operand.const (Go.Value.string { data := #[35, 32, 99, 10] })), (2, Go.Operand.const (Go.Value.string { data := #[13, 10] })), (3, Go.Operand.const (Go.Value.string { data := #[10, 10] })), (4, Go.Operand.const (Go.Value.string { data := #[10, 32, 35, 32, 100, 32, 46, 32, 10] }))], type := 25, pos := "law.go:139", after := #[], guard := none } : Oper)) rfl (fun K hK => ?_) ?_
                · go_simp
                  refine hK.out _ _ ?_ (fun hH3 => ?_)
                  · first | (with_reducible exact HSA.out _) | (with_reducible exact keepA9 _ hH2)
                  clear hK K hH2
                  try simp only [Act.put, List.setIfInBounds_toArray, List.set_cons_zero, List.set_cons_succ]
                  refine wpAnyH_ready (rs := [27]) (by kernel_rfl) (by simp) ?_
                  refine AllReadyH.cons (o := ({ dst := some 68, op := Go.Op.call { callee := Go.Callee.value (Go.Operand.func 15), args := #[Go.Operand.tmp 67], argTypes := #[40] }, type := 9, pos := "law.go:139", after := #[{ on := 26, ground := Go.Ground.data }, { on := 18, ground := Go.Ground.chain }], guard := none } : Oper)) rfl (fun K hK => ?_) ?_
                  · go_simp
                    go_at_call 15
                    with_reducible refine (HTC.out _).mono ?_
                    rintro e w1 ⟨rfl, hb⟩
                    (first | ((with_reducible refine e5K hr5 hb ?_); rintro ⟨zw, zc⟩; rw [← HEE.out] at zc) | ((with_reducible refine e5L hr5 (by assumption) hb ?_); rintro ⟨zw, zc⟩; rw [← HEE.out] at zc) | ((with_reducible refine e5D hr5 hb ?_); rintro ⟨zw, zc⟩; rw [← HEE.out] at zc) | skip)
                    try dsimp only
                    refine hK.out _ _ ?_ (fun hH4 => ?_)
                    · exact keepC9 hH3 hb
                    clear hK K hH3
                    try simp only [Act.put, List.setIfInBounds_toArray, List.set_cons_zero, List.set_cons_succ]
                    refine wpAnyH_take (i := 28) (oi := ({ dst := some 69, op := Go.Op.binOp Go.BinOp.add 9 (Go.Operand.tmp 62) (Go.Operand.tmp 68) 9, type := 9, pos := "law.go:139", after := #[{ on := 21, ground := Go.Ground.data }, { on := 27, ground := Go.Ground.data }], guard := none } : Oper)) (v := ?_) rfl (by kernel_rfl) (by kernel_rfl) (by kernel_rfl) (fun _ _ _ h => h) (Or.inl ⟨by rfl, ?_⟩) hH4 ?_
                    rotate_left 1
                    · intro w hSw
                      (try dsimp only at hSw)
                      go_simp
                      all_goals with_reducible rfl
                    try simp only [Act.put, List.setIfInBounds_toArray, List.set_cons_zero, List.set_cons_succ]
                    refine wpAnyH_take (i := 30) (oi := ({ dst := some 71, op := Go.Op.binOp Go.BinOp.add 9 (Go.Operand.tmp 69) (Go.Operand.tmp 70) 9, type := 9, pos := "law.go:139", after := #[{ on := 28, ground := Go.Ground.data }, { on := 29, ground := Go.Ground.data }], guard := none } : Oper)) (v := ?_) rfl (by kernel_rfl) (by kernel_rfl) (by kernel_rfl) (fun _ _ _ h => h) (Or.inl ⟨by rfl, ?_⟩) hH4 ?_
                    rotate_left 1
                    · intro w hSw
                      (try dsimp only at hSw)
                      go_simp
                      all_goals with_reducible rfl
                    try simp only [Act.put, List.setIfInBounds_toArray, List.set_cons_zero, List.set_cons_succ]
                    refine wpAnyH_take (i := 31) (oi := ({ dst := some 72, op := Go.Op.binOp Go.BinOp.add 9 (Go.Operand.tmp 71) (Go.Operand.const (Go.Value.string { data := #[46] })) 9, type := 9, pos := "law.go:139", after := #[{ on := 30, ground := Go.Ground.data }], guard := none } : Oper)) (v := ?_) rfl (by kernel_rfl) (by kernel_rfl) (by kernel_rfl) (fun _ _ _ h => h) (Or.inl ⟨by rfl, ?_⟩) hH4 ?_
                    rotate_left 1
                    · intro w hSw
                      (try dsimp only at hSw)
                      go_simp
                      all_goals with_reducible rfl
                    try simp only [Act.put, List.setIfInBounds_toArray, List.set_cons_zero, List.set_cons_succ]
                    refine wpAnyH_take (i := 33) (oi := ({ dst := some 74, op := Go.Op.binOp Go.BinOp.add 9 (Go.Operand.tmp 72) (Go.Operand.tmp 73) 9, type := 9, pos := "law.go:139", after := #[{ on := 31, ground := Go.Ground.data }, { on := 32, ground := Go.Ground.data }], guard := none } : Oper)) (v := ?_) rfl (by kernel_rfl) (by kernel_rfl) (by kernel_rfl) (fun _ _ _ h => h) (Or.inl ⟨by rfl, ?_⟩) hH4 ?_
                    rotate_left 1
                    · intro w hSw
                      (try dsimp only at hSw)
                      go_simp
                      all_goals with_reducible rfl
                    try simp only [Act.put, List.setIfInBounds_toArray, List.set_cons_zero, List.set_cons_succ]
                    refine wpAnyH_ready (rs := [37]) (by kernel_rfl) (by simp) ?_
                    refine AllReadyH.cons (o := ({ dst := some 78, op := Go.Op.call { callee := Go.Callee.value (Go.Operand.func 14), args := #[Go.Operand.tmp 77, Go.Operand.const (Go.Value.int Go.IntKind.i64 5)], argTypes := #[3, 3] }, type := 3, pos := "law.go:139", after := #[{ on := 36, ground := Go.Ground.data }, { on := 27, ground := Go.Ground.chain }], guard := none } : Oper)) rfl (fun K hK => ?_) ?_
                    · go_simp
                      go_at_call 14
                      first | (with_reducible refine (HW5.out _).mono ?_) | (with_reducible refine (HW6.out _).mono ?_)
                      rintro e w1 ⟨rfl, rfl⟩
                      try dsimp only
                      refine hK.out _ _ ?_ (fun hH5 => ?_)
                      · exact hH4
                      clear hK K hH4
                      try simp only [Act.put, List.setIfInBounds_toArray, List.set_cons_zero, List.set_cons_succ]
                      refine wpAnyH_take (i := 38) (oi := ({ dst := some 79, op := Go.Op.indexAddr 25 (Go.Operand.tmp 75) (Go.Operand.tmp 78), type := 0, pos := "law.go:139", after := #[{ on := 34, ground := Go.Ground.data }, { on := 37, ground := Go.Ground.data }], guard := none } : Oper)) (v := ?_) rfl (by kernel_rfl) (by kernel_rfl) (by kernel_rfl) (fun _ _ _ h => h) (Or.inl ⟨by rfl, ?_⟩) hH5 ?_
                      rotate_left 1
                      · intro w hSw
                        (try dsimp only at hSw)
                        go_simp
                        all_goals with_reducible rfl
                      try simp only [Act.put, List.setIfInBounds_toArray, List.set_cons_zero, List.set_cons_succ]
                      refine wpAnyH_ready (rs := [39]) (by kernel_rfl) (by simp) ?_
                      refine AllReadyH.cons (o := ({ dst := some 80, op := Go.Op.load 9 (Go.Operand.tmp 79), type := 9, pos := "law.go:139", after := #[{ on := 38, ground := Go.Ground.data }], guard := none } : Oper)) rfl (fun K hK => ?_) ?_
                      · go_simp
                        refine hK.out _ _ ?_ (fun hH6 => ?_)
                        · exact hH5
                        clear hK K hH5
                        try simp only [Act.put, List.setIfInBounds_toArray, List.set_cons_zero, List.set_cons_succ]
                        refine wpAnyH_take (i := 40) (oi := ({ dst := some 81, op := Go.Op.binOp Go.BinOp.add 9 (Go.Operand.tmp 74) (Go.Operand.tmp 80) 9, type := 9, pos := "law.go:139", after := #[{ on := 33, ground := Go.Ground.data }, { on := 39, ground := Go.Ground.data }], guard := none } : Oper)) (v := ?_) rfl (by kernel_rfl) (by kernel_rfl) (by kernel_rfl) (fun _ _ _ h => h) (Or.inl ⟨by rfl, ?_⟩) hH6 ?_
                        rotate_left 1
                        · intro w hSw
                          (try dsimp only at hSw)
                          go_simp
                          all_goals with_reducible rfl
                        try simp only [Act.put, List.setIfInBounds_toArray, List.set_cons_zero, List.set_cons_succ]
                        refine wpAnyH_take (i := 41) (oi := ({ dst := some 6, op := Go.Op.assign (Go.Operand.tmp 81), type := 9, pos := "law.go:139", after := #[{ on := 40, ground := Go.Ground.data }, { on := 37, ground := Go.Ground.chain }, { on := 0, ground := Go.Ground.phase }, { on := 1, ground := Go.Ground.phase }, { on := 2, ground := Go.Ground.phase }, { on := 3, ground := Go.Ground.phase }, { on := 4, ground := Go.Ground.phase }, { on := 5, ground := Go.Ground.phase }, { on := 6, ground := Go.Ground.phase }, { on := 7, ground := Go.Ground.phase }, { on := 8, ground := Go.Ground.phase }, { on := 9, ground := Go.Ground.phase }, { on := 10, ground := Go.Ground.phase }, { on := 11, ground := Go.Ground.phase }, { on := 12, ground := Go.Ground.phase }, { on := 13, ground := Go.Ground.phase }, { on := 14, ground := Go.Ground.phase }, { on := 15, ground := Go.Ground.phase }, { on := 16, ground := Go.Ground.phase }, { on := 17, ground := Go.Ground.phase }, { on := 18, ground := Go.Ground.phase }, { on := 19, ground := Go.Ground.phase }, { on := 20, ground := Go.Ground.phase }, { on := 21, ground := Go.Ground.phase }, { on := 22, ground := Go.Ground.phase }, { on := 23, ground := Go.Ground.phase }, { on := 24, ground := Go.Ground.phase }, { on := 25, ground := Go.Ground.phase }, { on := 26, ground := Go.Ground.phase }, { on := 27, ground := Go.Ground.phase }, { on := 28, ground := Go.Ground.phase }, { on := 29, ground := Go.Ground.phase }, { on := 30, ground := Go.Ground.phase }, { on := 31, ground := Go.Ground.phase }, { on := 32, ground := Go.Ground.phase }, { on := 33, ground := Go.Ground.phase }, { on := 34, ground := Go.Ground.phase }, { on := 35, ground := Go.Ground.phase }, { on := 36, ground := Go.Ground.phase }, { on := 37, ground := Go.Ground.phase }, { on := 38, ground := Go.Ground.phase }, { on := 39, ground := Go.Ground.phase }, { on := 40, ground := Go.Ground.phase }], guard := none } : Oper)) (v := ?_) rfl (by kernel_rfl) (by kernel_rfl) (by kernel_rfl) (fun _ _ _ h => h) (Or.inl ⟨by rfl, ?_⟩) hH6 ?_
                        rotate_left 1
                        · intro w hSw
                          (try dsimp only at hSw)
                          go_simp
                          all_goals with_reducible rfl
                        try simp only [Act.put, List.setIfInBounds_toArray, List.set_cons_zero, List.set_cons_succ]
                        refine wpAnyH_done (by kernel_rfl) ?_ _
                        refine NoPanic.normal ?_
                        go_wp2_with fail
                        go_meet
                        exact ⟨_, _, rfl, HSZ.out, HRn, Lib.hid (HB5.out.trans ((keepBel9 hH6).mono HB5.out.size))⟩
                      exact AllReadyH.nil
                    exact AllReadyH.nil
                  exact AllReadyH.nil
                exact AllReadyH.nil
              refine AllReadyH.cons (o := ({ dst := some 75, op := Go.Op.buildSlice 25 5 #[(0, Go.Operand.const (Go.Value.string { data := #[10] })), (1, Go.Operand.const (Go.Value.string { data := #[35, 32, 99, 10] })), (2, Go.Operand.const (Go.Value.string { data := #[13, 10] })), (3, Go.Operand.const (Go.Value.string { data := #[10, 10] })), (4, Go.Operand.const (Go.Value.string { data := #[10, 32, 35, 32, 100, 32, 46, 32, 10] }))], type := 25, pos := "law.go:139", after := #[], guard := none } : Oper)) rfl (fun K hK => ?_) ?_
              · go_simp
                refine hK.out _ _ ?_ (fun hH2 => ?_)
                · first | (with_reducible exact HSA.out _) | (with_reducible exact keepA9 _ hH1)
                clear hK K hH1
                try simp only [Act.put, List.setIfInBounds_toArray, List.set_cons_zero, List.set_cons_succ]
                refine wpAnyH_ready (rs := [18]) (by kernel_rfl) (by simp) ?_
                refine AllReadyH.cons (o := ({ dst := some 59, op := Go.Op.call { callee := Go.Callee.value (Go.Operand.func 15), args := #[Go.Operand.tmp 58], argTypes := #[40] }, type := 9, pos := "law.go:139", after := #[{ on := 17, ground := Go.Ground.data }, { on := 8, ground := Go.Ground.chain }], guard := none } : Oper)) rfl (fun K hK => ?_) ?_
                · go_simp
                  go_at_call 15
                  with_reducible refine (HTB.out _).mono ?_
                  rintro e w1 ⟨rfl, hb⟩
                  (first | ((with_reducible refine e5K hr5 hb ?_); rintro ⟨zw, zc⟩; rw [← HEE.out] at zc) | ((with_reducible refine e5L hr5 (by assumption) hb ?_); rintro ⟨zw, zc⟩; rw [← HEE.out] at zc) | ((with_reducible refine e5D hr5 hb ?_); rintro ⟨zw, zc⟩; rw [← HEE.out] at zc) | skip)
                  try dsimp only
                  refine hK.out _ _ ?_ (fun hH3 => ?_)
                  · exact keepC9 hH2 hb
                  clear hK K hH2
                  try simp only [Act.put, List.setIfInBounds_toArray, List.set_cons_zero, List.set_cons_succ]
                  refine wpAnyH_take (i := 19) (oi := ({ dst := some 60, op := Go.Op.binOp Go.BinOp.add 9 (Go.Operand.tmp 53) (Go.Operand.tmp 59) 9, type := 9, pos := "law.go:139", after := #[{ on := 12, ground := Go.Ground.data }, { on := 18, ground := Go.Ground.data }], guard := none } : Oper)) (v := ?_) rfl (by kernel_rfl) (by kernel_rfl) (by kernel_rfl) (fun _ _ _ h => h) (Or.inl ⟨by rfl, ?_⟩) hH3 ?_
                  rotate_left 1
                  · intro w hSw
                    (try dsimp only at hSw)
                    go_simp
                    all_goals with_reducible rfl
                  try simp only [Act.put, List.setIfInBounds_toArray, List.set_cons_zero, List.set_cons_succ]
                  refine wpAnyH_take (i := 21) (oi := ({ dst := some 62, op := Go.Op.binOp Go.BinOp.add 9 (Go.Operand.tmp 60) (Go.Operand.tmp 61) 9, type := 9, pos := "law.go:139", after := #[{ on := 19, ground := Go.Ground.data }, { on := 20, ground := Go.Ground.data }], guard := none } : Oper)) (v := ?_) rfl (by kernel_rfl) (by kernel_rfl) (by kernel_rfl) (fun _ _ _ h => h) (Or.inl ⟨by rfl, ?_⟩) hH3 ?_
                  rotate_left 1
                  · intro w hSw
                    (try dsimp only at hSw)
                    go_simp
                    all_goals with_reducible rfl
                  try simp only [Act.put, List.setIfInBounds_toArray, List.set_cons_zero, List.set_cons_succ]
                  refine wpAnyH_ready (rs := [27]) (by kernel_rfl) (by simp) ?_
                  refine AllReadyH.cons (o := ({ dst := some 68, op := Go.Op.call { callee := Go.Callee.value (Go.Operand.func 15), args := #[Go.Operand.tmp 67], argTypes := #[40] }, type := 9, pos := "law.go:139", after := #[{ on := 26, ground := Go.Ground.data }, { on := 18, ground := Go.Ground.chain }], guard := none } : Oper)) rfl (fun K hK => ?_) ?_
                  · go_simp
                    go_at_call 15
                    with_reducible refine (HTC.out _).mono ?_
                    rintro e w1 ⟨rfl, hb⟩
                    (first | ((with_reducible refine e5K hr5 hb ?_); rintro ⟨zw, zc⟩; rw [← HEE.out] at zc) | ((with_reducible refine e5L hr5 (by assumption) hb ?_); rintro ⟨zw, zc⟩; rw [← HEE.out] at zc) | ((with_reducible refine e5D hr5 hb ?_); rintro ⟨zw, zc⟩; rw [← HEE.out] at zc) | skip)
                    try dsimp only
                    refine hK.out _ _ ?_ (fun hH4 => ?_)
                    · exact keepC9 hH3 hb
                    clear hK K hH3
                    try simp only [Act.put, List.setIfInBounds_toArray, List.set_cons_zero, List.set_cons_succ]
                    refine wpAnyH_take (i := 28) (oi := ({ dst := some 69, op := Go.Op.binOp Go.BinOp.add 9 (Go.Operand.tmp 62) (Go.Operand.tmp 68) 9, type := 9, pos := "law.go:139", after := #[{ on := 21, ground := Go.Ground.data }, { on := 27, ground := Go.Ground.data }], guard := none } : Oper)) (v := ?_) rfl (by kernel_rfl) (by kernel_rfl) (by kernel_rfl) (fun _ _ _ h => h) (Or.inl ⟨by rfl, ?_⟩) hH4 ?_
                    rotate_left 1
                    · intro w hSw
                      (try dsimp only at hSw)
                      go_simp
                      all_goals with_reducible rfl
                    try simp only [Act.put, List.setIfInBounds_toArray, List.set_cons_zero, List.set_cons_succ]
                    refine wpAnyH_take (i := 30) (oi := ({ dst := some 71, op := Go.Op.binOp Go.BinOp.add 9 (Go.Operand.tmp 69) (Go.Operand.tmp 70) 9, type := 9, pos := "law.go:139", after := #[{ on := 28, ground := Go.Ground.data }, { on := 29, ground := Go.Ground.data }], guard := none } : Oper)) (v := ?_) rfl (by kernel_rfl) (by kernel_rfl) (by kernel_rfl) (fun _ _ _ h => h) (Or.inl ⟨by rfl, ?_⟩) hH4 ?_
                    rotate_left 1
                    · intro w hSw
                      (try dsimp only at hSw)
                      go_simp
                      all_goals with_reducible rfl
                    try simp only [Act.put, List.setIfInBounds_toArray, List.set_cons_zero, List.set_cons_succ]
                    refine wpAnyH_take (i := 31) (oi := ({ dst := some 72, op := Go.Op.binOp Go.BinOp.add 9 (Go.Operand.tmp 71) (Go.Operand.const (Go.Value.string { data := #[46] })) 9, type := 9, pos := "law.go:139", after := #[{ on := 30, ground := Go.Ground.data }], guard := none } : Oper)) (v := ?_) rfl (by kernel_rfl) (by kernel_rfl) (by kernel_rfl) (fun _ _ _ h => h) (Or.inl ⟨by rfl, ?_⟩) hH4 ?_
                    rotate_left 1
                    · intro w hSw
                      (try dsimp only at hSw)
                      go_simp
                      all_goals with_reducible rfl
                    try simp only [Act.put, List.setIfInBounds_toArray, List.set_cons_zero, List.set_cons_succ]
                    refine wpAnyH_take (i := 33) (oi := ({ dst := some 74, op := Go.Op.binOp Go.BinOp.add 9 (Go.Operand.tmp 72) (Go.Operand.tmp 73) 9, type := 9, pos := "law.go:139", after := #[{ on := 31, ground := Go.Ground.data }, { on := 32, ground := Go.Ground.data }], guard := none } : Oper)) (v := ?_) rfl (by kernel_rfl) (by kernel_rfl) (by kernel_rfl) (fun _ _ _ h => h) (Or.inl ⟨by rfl, ?_⟩) hH4 ?_
                    rotate_left 1
                    · intro w hSw
                      (try dsimp only at hSw)
                      go_simp
                      all_goals with_reducible rfl
                    try simp only [Act.put, List.setIfInBounds_toArray, List.set_cons_zero, List.set_cons_succ]
                    refine wpAnyH_ready (rs := [37]) (by kernel_rfl) (by simp) ?_
                    refine AllReadyH.cons (o := ({ dst := some 78, op := Go.Op.call { callee := Go.Callee.value (Go.Operand.func 14), args := #[Go.Operand.tmp 77, Go.Operand.const (Go.Value.int Go.IntKind.i64 5)], argTypes := #[3, 3] }, type := 3, pos := "law.go:139", after := #[{ on := 36, ground := Go.Ground.data }, { on := 27, ground := Go.Ground.chain }], guard := none } : Oper)) rfl (fun K hK => ?_) ?_
                    · go_simp
                      go_at_call 14
                      first | (with_reducible refine (HW5.out _).mono ?_) | (with_reducible refine (HW6.out _).mono ?_)
                      rintro e w1 ⟨rfl, rfl⟩
                      try dsimp only
                      refine hK.out _ _ ?_ (fun hH5 => ?_)
                      · exact hH4
                      clear hK K hH4
                      try simp only [Act.put, List.setIfInBounds_toArray, List.set_cons_zero, List.set_cons_succ]
                      refine wpAnyH_take (i := 38) (oi := ({ dst := some 79, op := Go.Op.indexAddr 25 (Go.Operand.tmp 75) (Go.Operand.tmp 78), type := 0, pos := "law.go:139", after := #[{ on := 34, ground := Go.Ground.data }, { on := 37, ground := Go.Ground.data }], guard := none } : Oper)) (v := ?_) rfl (by kernel_rfl) (by kernel_rfl) (by kernel_rfl) (fun _ _ _ h => h) (Or.inl ⟨by rfl, ?_⟩) hH5 ?_
                      rotate_left 1
                      · intro w hSw
                        (try dsimp only at hSw)
                        go_simp
                        all_goals with_reducible rfl
                      try simp only [Act.put, List.setIfInBounds_toArray, List.set_cons_zero, List.set_cons_succ]
                      refine wpAnyH_ready (rs := [39]) (by kernel_rfl) (by simp) ?_
                      refine AllReadyH.cons (o := ({ dst := some 80, op := Go.Op.load 9 (Go.Operand.tmp 79), type := 9, pos := "law.go:139", after := #[{ on := 38, ground := Go.Ground.data }], guard := none } : Oper)) rfl (fun K hK => ?_) ?_
                      · go_simp
                        refine hK.out _ _ ?_ (fun hH6 => ?_)
                        · exact hH5
                        clear hK K hH5
                        try simp only [Act.put, List.setIfInBounds_toArray, List.set_cons_zero, List.set_cons_succ]
                        refine wpAnyH_take (i := 40) (oi := ({ dst := some 81, op := Go.Op.binOp Go.BinOp.add 9 (Go.Operand.tmp 74) (Go.Operand.tmp 80) 9, type := 9, pos := "law.go:139", after := #[{ on := 33, ground := Go.Ground.data }, { on := 39, ground := Go.Ground.data }], guard := none } : Oper)) (v := ?_) rfl (by kernel_rfl) (by kernel_rfl) (by kernel_rfl) (fun _ _ _ h => h) (Or.inl ⟨by rfl, ?_⟩) hH6 ?_
                        rotate_left 1
                        · intro w hSw
                          (try dsimp only at hSw)
                          go_simp
                          all_goals with_reducible rfl
                        try simp only [Act.put, List.setIfInBounds_toArray, List.set_cons_zero, List.set_cons_succ]
                        refine wpAnyH_take (i := 41) (oi := ({ dst := some 6, op := Go.Op.assign (Go.Operand.tmp 81), type := 9, pos := "law.go:139", after := #[{ on := 40, ground := Go.Ground.data }, { on := 37, ground := Go.Ground.chain }, { on := 0, ground := Go.Ground.phase }, { on := 1, ground := Go.Ground.phase }, { on := 2, ground := Go.Ground.phase }, { on := 3, ground := Go.Ground.phase }, { on := 4, ground := Go.Ground.phase }, { on := 5, ground := Go.Ground.phase }, { on := 6, ground := Go.Ground.phase }, { on := 7, ground := Go.Ground.phase }, { on := 8, ground := Go.Ground.phase }, { on := 9, ground := Go.Ground.phase }, { on := 10, ground := Go.Ground.phase }, { on := 11, ground := Go.Ground.phase }, { on := 12, ground := Go.Ground.phase }, { on := 13, ground := Go.Ground.phase }, { on := 14, ground := Go.Ground.phase }, { on := 15, ground := Go.Ground.phase }, { on := 16, ground := Go.Ground.phase }, { on := 17, ground := Go.Ground.phase }, { on := 18, ground := Go.Ground.phase }, { on := 19, ground := Go.Ground.phase }, { on := 20, ground := Go.Ground.phase }, { on := 21, ground := Go.Ground.phase }, { on := 22, ground := Go.Ground.phase }, { on := 23, ground := Go.Ground.phase }, { on := 24, ground := Go.Ground.phase }, { on := 25, ground := Go.Ground.phase }, { on := 26, ground := Go.Ground.phase }, { on := 27, ground := Go.Ground.phase }, { on := 28, ground := Go.Ground.phase }, { on := 29, ground := Go.Ground.phase }, { on := 30, ground := Go.Ground.phase }, { on := 31, ground := Go.Ground.phase }, { on := 32, ground := Go.Ground.phase }, { on := 33, ground := Go.Ground.phase }, { on := 34, ground := Go.Ground.phase }, { on := 35, ground := Go.Ground.phase }, { on := 36, ground := Go.Ground.phase }, { on := 37, ground := Go.Ground.phase }, { on := 38, ground := Go.Ground.phase }, { on := 39, ground := Go.Ground.phase }, { on := 40, ground := Go.Ground.phase }], guard := none } : Oper)) (v := ?_) rfl (by kernel_rfl) (by kernel_rfl) (by kernel_rfl) (fun _ _ _ h => h) (Or.inl ⟨by rfl, ?_⟩) hH6 ?_
                        rotate_left 1
                        · intro w hSw
                          (try dsimp only at hSw)
                          go_simp
                          all_goals with_reducible rfl
                        try simp only [Act.put, List.setIfInBounds_toArray, List.set_cons_zero, List.set_cons_succ]
                        refine wpAnyH_done (by kernel_rfl) ?_ _
                        refine NoPanic.normal ?_
                        go_wp2_with fail
                        go_meet
                        exact ⟨_, _, rfl, HSZ.out, HRn, Lib.hid (HB5.out.trans ((keepBel9 hH6).mono HB5.out.size))⟩
                      exact AllReadyH.nil
                    exact AllReadyH.nil
                  exact AllReadyH.nil
                exact AllReadyH.nil
              exact AllReadyH.nil
            refine AllReadyH.cons (o := ({ dst := some 75, op := Go.Op.buildSlice 25 5 #[(0, Go.Operand.const (Go.Value.string { data := #[10] })), (1, Go.Operand.const (Go.Value.string { data := #[35, 32, 99, 10] })), (2, Go.Operand.const (Go.Value.string { data := #[13, 10] })), (3, Go.Operand.const (Go.Value.string { data := #[10, 10] })), (4, Go.Operand.const (Go.Value.string { data := #[10, 32, 35, 32, 100, 32, 46, 32, 10] }))], type := 25, pos := "law.go:139", after := #[], guard := none } : Oper)) rfl (fun K hK => ?_) ?_
            · go_simp
              refine hK.out _ _ ?_ (fun hH1 => ?_)
              · first | (with_reducible exact HSA.out _) | (with_reducible exact keepA9 _ hH0)
              clear hK K hH0
              try simp only [Act.put, List.setIfInBounds_toArray, List.set_cons_zero, List.set_cons_succ]
              refine wpAnyH_ready (rs := [8]) (by kernel_rfl) (by simp) ?_
              refine AllReadyH.cons (o := ({ dst := some 49, op := Go.Op.call { callee := Go.Callee.value (Go.Operand.func 15), args := #[Go.Operand.tmp 48], argTypes := #[40] }, type := 9, pos := "law.go:139", after := #[{ on := 7, ground := Go.Ground.data }], guard := none } : Oper)) rfl (fun K hK => ?_) ?_
              · go_simp
                go_at_call 15
                with_reducible refine (HTA.out _).mono ?_
                rintro e w1 ⟨rfl, hb⟩
                (first | ((with_reducible refine e5K hr5 hb ?_); rintro ⟨zw, zc⟩; rw [← HEE.out] at zc) | ((with_reducible refine e5L hr5 (by assumption) hb ?_); rintro ⟨zw, zc⟩; rw [← HEE.out] at zc) | ((with_reducible refine e5D hr5 hb ?_); rintro ⟨zw, zc⟩; rw [← HEE.out] at zc) | skip)
                try dsimp only
                refine hK.out _ _ ?_ (fun hH2 => ?_)
                · exact keepC9 hH1 hb
                clear hK K hH1
                try simp only [Act.put, List.setIfInBounds_toArray, List.set_cons_zero, List.set_cons_succ]
                refine wpAnyH_take (i := 9) (oi := ({ dst := some 50, op := Go.Op.binOp Go.BinOp.add 9 (Go.Operand.tmp 43) (Go.Operand.tmp 49) 9, type := 9, pos := "law.go:139", after := #[{ on := 2, ground := Go.Ground.data }, { on := 8, ground := Go.Ground.data }], guard := none } : Oper)) (v := ?_) rfl (by kernel_rfl) (by kernel_rfl) (by kernel_rfl) (fun _ _ _ h => h) (Or.inl ⟨by rfl, ?_⟩) hH2 ?_
                rotate_left 1
                · intro w hSw
                  (try dsimp only at hSw)
                  go_simp
                  all_goals with_reducible rfl
                try simp only [Act.put, List.setIfInBounds_toArray, List.set_cons_zero, List.set_cons_succ]
                refine wpAnyH_take (i := 11) (oi := ({ dst := some 52, op := Go.Op.binOp Go.BinOp.add 9 (Go.Operand.tmp 50) (Go.Operand.tmp 51) 9, type := 9, pos := "law.go:139", after := #[{ on := 9, ground := Go.Ground.data }, { on := 10, ground := Go.Ground.data }], guard := none } : Oper)) (v := ?_) rfl (by kernel_rfl) (by kernel_rfl) (by kernel_rfl) (fun _ _ _ h => h) (Or.inl ⟨by rfl, ?_⟩) hH2 ?_
                rotate_left 1
                · intro w hSw
                  (try dsimp only at hSw)
                  go_simp
                  all_goals with_reducible rfl
                try simp only [Act.put, List.setIfInBounds_toArray, List.set_cons_zero, List.set_cons_succ]
                refine wpAnyH_take (i := 12) (oi := ({ dst := some 53, op := Go.Op.binOp Go.BinOp.add 9 (Go.Operand.tmp 52) (Go.Operand.const (Go.Value.string { data := #[32] })) 9, type := 9, pos := "law.go:139", after := #[{ on := 11, ground := Go.Ground.data }], guard := none } : Oper)) (v := ?_) rfl (by kernel_rfl) (by kernel_rfl) (by kernel_rfl) (fun _ _ _ h => h) (Or.inl ⟨by rfl, ?_⟩) hH2 ?_
                rotate_left 1
                · intro w hSw
                  (try dsimp only at hSw)
                  go_simp
                  all_goals with_reducible rfl
                try simp only [Act.put, List.setIfInBounds_toArray, List.set_cons_zero, List.set_cons_succ]
                refine wpAnyH_ready (rs := [18]) (by kernel_rfl) (by simp) ?_
                refine AllReadyH.cons (o := ({ dst := some 59, op := Go.Op.call { callee := Go.Callee.value (Go.Operand.func 15), args := #[Go.Operand.tmp 58], argTypes := #[40] }, type := 9, pos := "law.go:139", after := #[{ on := 17, ground := Go.Ground.data }, { on := 8, ground := Go.Ground.chain }], guard := none } : Oper)) rfl (fun K hK => ?_) ?_
                · go_simp
                  go_at_call 15
                  with_reducible refine (HTB.out _).mono ?_
                  rintro e w1 ⟨rfl, hb⟩
                  (first | ((with_reducible refine e5K hr5 hb ?_); rintro ⟨zw, zc⟩; rw [← HEE.out] at zc) | ((with_reducible refine e5L hr5 (by assumption) hb ?_); rintro ⟨zw, zc⟩; rw [← HEE.out] at zc) | ((with_reducible refine e5D hr5 hb ?_); rintro ⟨zw, zc⟩; rw [← HEE.out] at zc) | skip)
                  try dsimp only
                  refine hK.out _ _ ?_ (fun hH3 => ?_)
                  · exact keepC9 hH2 hb
                  clear hK K hH2
                  try simp only [Act.put, List.setIfInBounds_toArray, List.set_cons_zero, List.set_cons_succ]
                  refine wpAnyH_take (i := 19) (oi := ({ dst := some 60, op := Go.Op.binOp Go.BinOp.add 9 (Go.Operand.tmp 53) (Go.Operand.tmp 59) 9, type := 9, pos := "law.go:139", after := #[{ on := 12, ground := Go.Ground.data }, { on := 18, ground := Go.Ground.data }], guard := none } : Oper)) (v := ?_) rfl (by kernel_rfl) (by kernel_rfl) (by kernel_rfl) (fun _ _ _ h => h) (Or.inl ⟨by rfl, ?_⟩) hH3 ?_
                  rotate_left 1
                  · intro w hSw
                    (try dsimp only at hSw)
                    go_simp
                    all_goals with_reducible rfl
                  try simp only [Act.put, List.setIfInBounds_toArray, List.set_cons_zero, List.set_cons_succ]
                  refine wpAnyH_take (i := 21) (oi := ({ dst := some 62, op := Go.Op.binOp Go.BinOp.add 9 (Go.Operand.tmp 60) (Go.Operand.tmp 61) 9, type := 9, pos := "law.go:139", after := #[{ on := 19, ground := Go.Ground.data }, { on := 20, ground := Go.Ground.data }], guard := none } : Oper)) (v := ?_) rfl (by kernel_rfl) (by kernel_rfl) (by kernel_rfl) (fun _ _ _ h => h) (Or.inl ⟨by rfl, ?_⟩) hH3 ?_
                  rotate_left 1
                  · intro w hSw
                    (try dsimp only at hSw)
                    go_simp
                    all_goals with_reducible rfl
                  try simp only [Act.put, List.setIfInBounds_toArray, List.set_cons_zero, List.set_cons_succ]
                  refine wpAnyH_ready (rs := [27]) (by kernel_rfl) (by simp) ?_
                  refine AllReadyH.cons (o := ({ dst := some 68, op := Go.Op.call { callee := Go.Callee.value (Go.Operand.func 15), args := #[Go.Operand.tmp 67], argTypes := #[40] }, type := 9, pos := "law.go:139", after := #[{ on := 26, ground := Go.Ground.data }, { on := 18, ground := Go.Ground.chain }], guard := none } : Oper)) rfl (fun K hK => ?_) ?_
                  · go_simp
                    go_at_call 15
                    with_reducible refine (HTC.out _).mono ?_
                    rintro e w1 ⟨rfl, hb⟩
                    (first | ((with_reducible refine e5K hr5 hb ?_); rintro ⟨zw, zc⟩; rw [← HEE.out] at zc) | ((with_reducible refine e5L hr5 (by assumption) hb ?_); rintro ⟨zw, zc⟩; rw [← HEE.out] at zc) | ((with_reducible refine e5D hr5 hb ?_); rintro ⟨zw, zc⟩; rw [← HEE.out] at zc) | skip)
                    try dsimp only
                    refine hK.out _ _ ?_ (fun hH4 => ?_)
                    · exact keepC9 hH3 hb
                    clear hK K hH3
                    try simp only [Act.put, List.setIfInBounds_toArray, List.set_cons_zero, List.set_cons_succ]
                    refine wpAnyH_take (i := 28) (oi := ({ dst := some 69, op := Go.Op.binOp Go.BinOp.add 9 (Go.Operand.tmp 62) (Go.Operand.tmp 68) 9, type := 9, pos := "law.go:139", after := #[{ on := 21, ground := Go.Ground.data }, { on := 27, ground := Go.Ground.data }], guard := none } : Oper)) (v := ?_) rfl (by kernel_rfl) (by kernel_rfl) (by kernel_rfl) (fun _ _ _ h => h) (Or.inl ⟨by rfl, ?_⟩) hH4 ?_
                    rotate_left 1
                    · intro w hSw
                      (try dsimp only at hSw)
                      go_simp
                      all_goals with_reducible rfl
                    try simp only [Act.put, List.setIfInBounds_toArray, List.set_cons_zero, List.set_cons_succ]
                    refine wpAnyH_take (i := 30) (oi := ({ dst := some 71, op := Go.Op.binOp Go.BinOp.add 9 (Go.Operand.tmp 69) (Go.Operand.tmp 70) 9, type := 9, pos := "law.go:139", after := #[{ on := 28, ground := Go.Ground.data }, { on := 29, ground := Go.Ground.data }], guard := none } : Oper)) (v := ?_) rfl (by kernel_rfl) (by kernel_rfl) (by kernel_rfl) (fun _ _ _ h => h) (Or.inl ⟨by rfl, ?_⟩) hH4 ?_
                    rotate_left 1
                    · intro w hSw
                      (try dsimp only at hSw)
                      go_simp
                      all_goals with_reducible rfl
                    try simp only [Act.put, List.setIfInBounds_toArray, List.set_cons_zero, List.set_cons_succ]
                    refine wpAnyH_take (i := 31) (oi := ({ dst := some 72, op := Go.Op.binOp Go.BinOp.add 9 (Go.Operand.tmp 71) (Go.Operand.const (Go.Value.string { data := #[46] })) 9, type := 9, pos := "law.go:139", after := #[{ on := 30, ground := Go.Ground.data }], guard := none } : Oper)) (v := ?_) rfl (by kernel_rfl) (by kernel_rfl) (by kernel_rfl) (fun _ _ _ h => h) (Or.inl ⟨by rfl, ?_⟩) hH4 ?_
                    rotate_left 1
                    · intro w hSw
                      (try dsimp only at hSw)
                      go_simp
                      all_goals with_reducible rfl
                    try simp only [Act.put, List.setIfInBounds_toArray, List.set_cons_zero, List.set_cons_succ]
                    refine wpAnyH_take (i := 33) (oi := ({ dst := some 74, op := Go.Op.binOp Go.BinOp.add 9 (Go.Operand.tmp 72) (Go.Operand.tmp 73) 9, type := 9, pos := "law.go:139", after := #[{ on := 31, ground := Go.Ground.data }, { on := 32, ground := Go.Ground.data }], guard := none } : Oper)) (v := ?_) rfl (by kernel_rfl) (by kernel_rfl) (by kernel_rfl) (fun _ _ _ h => h) (Or.inl ⟨by rfl, ?_⟩) hH4 ?_
                    rotate_left 1
                    · intro w hSw
                      (try dsimp only at hSw)
                      go_simp
                      all_goals with_reducible rfl
                    try simp only [Act.put, List.setIfInBounds_toArray, List.set_cons_zero, List.set_cons_succ]
                    refine wpAnyH_ready (rs := [37]) (by kernel_rfl) (by simp) ?_
                    refine AllReadyH.cons (o := ({ dst := some 78, op := Go.Op.call { callee := Go.Callee.value (Go.Operand.func 14), args := #[Go.Operand.tmp 77, Go.Operand.const (Go.Value.int Go.IntKind.i64 5)], argTypes := #[3, 3] }, type := 3, pos := "law.go:139", after := #[{ on := 36, ground := Go.Ground.data }, { on := 27, ground := Go.Ground.chain }], guard := none } : Oper)) rfl (fun K hK => ?_) ?_
                    · go_simp
                      go_at_call 14
                      first | (with_reducible refine (HW5.out _).mono ?_) | (with_reducible refine (HW6.out _).mono ?_)
                      rintro e w1 ⟨rfl, rfl⟩
                      try dsimp only
                      refine hK.out _ _ ?_ (fun hH5 => ?_)
                      · exact hH4
                      clear hK K hH4
                      try simp only [Act.put, List.setIfInBounds_toArray, List.set_cons_zero, List.set_cons_succ]
                      refine wpAnyH_take (i := 38) (oi := ({ dst := some 79, op := Go.Op.indexAddr 25 (Go.Operand.tmp 75) (Go.Operand.tmp 78), type := 0, pos := "law.go:139", after := #[{ on := 34, ground := Go.Ground.data }, { on := 37, ground := Go.Ground.data }], guard := none } : Oper)) (v := ?_) rfl (by kernel_rfl) (by kernel_rfl) (by kernel_rfl) (fun _ _ _ h => h) (Or.inl ⟨by rfl, ?_⟩) hH5 ?_
                      rotate_left 1
                      · intro w hSw
                        (try dsimp only at hSw)
                        go_simp
                        all_goals with_reducible rfl
                      try simp only [Act.put, List.setIfInBounds_toArray, List.set_cons_zero, List.set_cons_succ]
                      refine wpAnyH_ready (rs := [39]) (by kernel_rfl) (by simp) ?_
                      refine AllReadyH.cons (o := ({ dst := some 80, op := Go.Op.load 9 (Go.Operand.tmp 79), type := 9, pos := "law.go:139", after := #[{ on := 38, ground := Go.Ground.data }], guard := none } : Oper)) rfl (fun K hK => ?_) ?_
                      · go_simp
                        refine hK.out _ _ ?_ (fun hH6 => ?_)
                        · exact hH5
                        clear hK K hH5
                        try simp only [Act.put, List.setIfInBounds_toArray, List.set_cons_zero, List.set_cons_succ]
                        refine wpAnyH_take (i := 40) (oi := ({ dst := some 81, op := Go.Op.binOp Go.BinOp.add 9 (Go.Operand.tmp 74) (Go.Operand.tmp 80) 9, type := 9, pos := "law.go:139", after := #[{ on := 33, ground := Go.Ground.data }, { on := 39, ground := Go.Ground.data }], guard := none } : Oper)) (v := ?_) rfl (by kernel_rfl) (by kernel_rfl) (by kernel_rfl) (fun _ _ _ h => h) (Or.inl ⟨by rfl, ?_⟩) hH6 ?_
                        rotate_left 1
                        · intro w hSw
                          (try dsimp only at hSw)
                          go_simp
                          all_goals with_reducible rfl
                        try simp only [Act.put, List.setIfInBounds_toArray, List.set_cons_zero, List.set_cons_succ]
                        refine wpAnyH_take (i := 41) (oi := ({ dst := some 6, op := Go.Op.assign (Go.Operand.tmp 81), type := 9, pos := "law.go:139", after := #[{ on := 40, ground := Go.Ground.data }, { on := 37, ground := Go.Ground.chain }, { on := 0, ground := Go.Ground.phase }, { on := 1, ground := Go.Ground.phase }, { on := 2, ground := Go.Ground.phase }, { on := 3, ground := Go.Ground.phase }, { on := 4, ground := Go.Ground.phase }, { on := 5, ground := Go.Ground.phase }, { on := 6, ground := Go.Ground.phase }, { on := 7, ground := Go.Ground.phase }, { on := 8, ground := Go.Ground.phase }, { on := 9, ground := Go.Ground.phase }, { on := 10, ground := Go.Ground.phase }, { on := 11, ground := Go.Ground.phase }, { on := 12, ground := Go.Ground.phase }, { on := 13, ground := Go.Ground.phase }, { on := 14, ground := Go.Ground.phase }, { on := 15, ground := Go.Ground.phase }, { on := 16, ground := Go.Ground.phase }, { on := 17, ground := Go.Ground.phase }, { on := 18, ground := Go.Ground.phase }, { on := 19, ground := Go.Ground.phase }, { on := 20, ground := Go.Ground.phase }, { on := 21, ground := Go.Ground.phase }, { on := 22, ground := Go.Ground.phase }, { on := 23, ground := Go.Ground.phase }, { on := 24, ground := Go.Ground.phase }, { on := 25, ground := Go.Ground.phase }, { on := 26, ground := Go.Ground.phase }, { on := 27, ground := Go.Ground.phase }, { on := 28, ground := Go.Ground.phase }, { on := 29, ground := Go.Ground.phase }, { on := 30, ground := Go.Ground.phase }, { on := 31, ground := Go.Ground.phase }, { on := 32, ground := Go.Ground.phase }, { on := 33, ground := Go.Ground.phase }, { on := 34, ground := Go.Ground.phase }, { on := 35, ground := Go.Ground.phase }, { on := 36, ground := Go.Ground.phase }, { on := 37, ground := Go.Ground.phase }, { on := 38, ground := Go.Ground.phase }, { on := 39, ground := Go.Ground.phase }, { on := 40, ground := Go.Ground.phase }], guard := none } : Oper)) (v := ?_) rfl (by kernel_rfl) (by kernel_rfl) (by kernel_rfl) (fun _ _ _ h => h) (Or.inl ⟨by rfl, ?_⟩) hH6 ?_
                        rotate_left 1
                        · intro w hSw
                          (try dsimp only at hSw)
                          go_simp
                          all_goals with_reducible rfl
                        try simp only [Act.put, List.setIfInBounds_toArray, List.set_cons_zero, List.set_cons_succ]
                        refine wpAnyH_done (by kernel_rfl) ?_ _
                        refine NoPanic.normal ?_
                        go_wp2_with fail
                        go_meet
                        exact ⟨_, _, rfl, HSZ.out, HRn, Lib.hid (HB5.out.trans ((keepBel9 hH6).mono HB5.out.size))⟩
                      exact AllReadyH.nil
                    exact AllReadyH.nil
                  exact AllReadyH.nil
                exact AllReadyH.nil
              exact AllReadyH.nil
            exact AllReadyH.nil
      case rest =>
        obtain ⟨s2, R2, rfl, hsz2, HRn, HB7⟩ := hcut
        go_wp2
        go_roundw
        case rel => exact ⟨i + 1, s2, R2, by go_num, by omega, rfl, hsz2, HRn, HB7⟩
        case measure => simp [intOf]; omega
    · obtain rfl : i = g.length := by omega
      have HBo := Lib.hid (HB4.out.trans (HBl.out.mono HB4.out.size))
      by_cases h16 : s.size ≤ 16000
      · have hd := doc_any R m wo HRr.out.2.1 (by have := HRr.out.1; rw [this, mkB_size] at h16; exact h16) (MB.out wo HBo.out)
        rw [HRr.out.2.2, List.take_length, ← HRr.out.1] at hd
        have HD := Lib.hid hd
        clear hd
        have q1 : ¬ (16000 : Int) < (s.size : Int) := by omega
        go_wp2_with fail
        refine HD.out.mono ?_
        rintro e w7 ⟨v7, rfl, ho7, hb7⟩
        obtain ⟨A7, c7, hv7⟩ := own_slice ho7
        subst hv7
        have HT7 := Lib.hid (TriRow.of ho7)
        have HG7 := Lib.hid ((HR4.out.below HBl.out).below hb7)
        have HB7 := Lib.hid (HBo.out.trans (hb7.mono HBo.out.size))
        clear ho7 hb7
        go_wp2_with fail
        refine (same9_any A7 A4 c7 c4 g w7 (by omega) HT7.out HG7.out).mono ?_
        rintro e w8 ⟨rfl, hb8⟩
        have HB8 := Lib.hid (HB7.out.trans (hb8.mono HB7.out.size))
        clear hb8
        go_wp2
        go_ret
        exact ⟨rfl, HB8.out⟩
      · have q1 : (16000 : Int) < (s.size : Int) := by omega
        have HD := Lib.hid (parse_long s wo (by omega) (by omega))
        go_wp2_with fail
        refine HD.out.mono ?_
        rintro e w7 ⟨rfl, rfl⟩
        go_wp2
        go_ret
        exact ⟨rfl, HBo.out⟩
end Go.Proofs.YtpgoemlnjocmhaaDoor.Nt
