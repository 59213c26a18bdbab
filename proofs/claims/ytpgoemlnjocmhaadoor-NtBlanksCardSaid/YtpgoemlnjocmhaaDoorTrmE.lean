/-
  A part of the proof (whatever the input, the law returns true and the input reads as it did): terms as texts. Conditions stand at each theorem.
-/
import Derived.Test.YtpgoemlnjocmhaaDoorTrmA
import Derived.StillTailTactics
namespace Go.Proofs.YtpgoemlnjocmhaaDoor.Nt
open Go.RowKit Go.Proofs.YtpgoemlnjocmhaaDoorW.PrintWords
set_option linter.unusedVariables false
set_option linter.unusedSimpArgs false

def escQ (c : UInt8) : List UInt8 := if c = 9 then [92, 116] else if c = 10 then [92, 110] else if c = 13 then [92, 114] else if c = 34 then [92, 34] else if c = 92 then [92, 92] else [c]
theorem escQ_len (c : UInt8) : (escQ c).length ≤ 2 := by
  unfold escQ; repeat' split
  all_goals simp
theorem escs_len (l : Bs) : (l.flatMap escQ).length ≤ 2 * l.length := by
  induction l with
  | nil => simp
  | cons c l ih => have := escQ_len c; simp only [List.flatMap_cons, List.length_append, List.length_cons]; omega
def quotQ (l : Bs) : Bs := 34 :: (l.flatMap escQ ++ [34])
theorem data_app (a b : ByteArray) : (a ++ b).data.toList = a.data.toList ++ b.data.toList := by rw [ByteArray.data_append, Array.toList_append]
theorem slice1 (s : ByteArray) (i : Nat) (h : i < s.size) : (s.extract i (i + 1)).data.toList = [s[i]] := by
  rw [ByteArray.data_extract, Array.toList_extract]
  apply List.ext_getElem?
  intro j
  rcases j with _ | j
  · simp [List.getElem?_drop, List.getElem?_take, h]
    rfl
  · simp [List.getElem?_drop, List.getElem?_take]
theorem take_snoc' (s : ByteArray) (k : Nat) (h : k < s.size) : s.data.toList.take (k + 1) = s.data.toList.take k ++ [s[k]] := by
  rw [List.take_succ_eq_append_getElem (by simpa using h)]; rfl
theorem byte_ne (c : UInt8) (k : Nat) (hk : k < 256) (h : c ≠ UInt8.ofNat k) (n : Int) (hn : (c.toNat : Int) = n) : (n == (k : Int)) = false := by
  refine beq_eq_false_iff_ne.2 fun h2 => h (UInt8.toNat_inj.1 ?_)
  have : c.toNat = k := by omega
  rw [this]
  simp
  omega
set_option maxHeartbeats 1600000 in
set_option maxRecDepth 100000 in
theorem quoted_any (s : ByteArray) (w : World) (hs : s.size ≤ 140737488351232) :
    Calls Tryd.prog 34 #[.string s] w fun e w' => e = .returned (.string ⟨(quotQ s.data.toList).toArray⟩) ∧ w = w' := by
  go_enter Tryd.func34, Tryd.ntmps34
  go_wp2
  go_loop [3, 4] (fun v3 v4 => ∃ (i : Nat) (o : ByteArray), v4 = .int .i64 i ∧ v3 = .string o ∧ i ≤ s.size ∧ o.size ≤ 1 + 2 * i ∧ Hid (o.data.toList = 34 :: (s.data.toList.take i).flatMap escQ)) (fun _ v => s.size - (intOf v).toNat)
  case atStart => exact ⟨0, ⟨#[34]⟩, rfl, rfl, by omega, by decide, Lib.hid rfl⟩
  case round =>
    obtain ⟨i, o, rfl, rfl, hi, ho, HO⟩ := hrel
    by_cases hlt : i < s.size
    · have hts := take_snoc' s i hlt
      have hsl := slice1 s i hlt
      have hxt := HO.out
      have hz : (((o ++ ⟨#[92, 116]⟩ : ByteArray)).size = o.size + 2) := by rw [ByteArray.size_append]; rfl
      have hst : ∀ (q : ByteArray), q.data.toList = escQ s[i] → (o ++ q).data.toList = 34 :: (s.data.toList.take (i + 1)).flatMap escQ := fun q hq => by
        rw [data_app, HO.out, hq, hts, List.flatMap_append]
        simp
      have HST := Lib.hid hst
      have HSL := Lib.hid hsl
      clear hts hsl hxt hz hst
      have hsum : o.size + 2 ≤ 9223372036854775807 := by omega
      have hsum1 : o.size + 1 ≤ 9223372036854775807 := by omega
      by_cases c9 : s[i] = 9
      · have hx : ∀ h : i < s.size, ((s[i]'h).toNat : Int) = 9 := fun _ => by rw [c9]; rfl
        have HQ := Lib.hid (HST.out ⟨#[92, 116]⟩ (by rw [c9]; rfl))
        clear c9
        go_wp2
        go_round
        case rel => exact ⟨i + 1, _, by go_num, rfl, by omega, by rw [ByteArray.size_append]; show _ + 2 ≤ _; omega, HQ⟩
        case measure => simp [intOf]; omega
      by_cases c10 : s[i] = 10
      · have hx : ∀ h : i < s.size, ((s[i]'h).toNat : Int) = 10 := fun _ => by rw [c10]; rfl
        have HQ := Lib.hid (HST.out ⟨#[92, 110]⟩ (by rw [c10]; rfl))
        clear c10
        go_wp2
        go_round
        case rel => exact ⟨i + 1, _, by go_num, rfl, by omega, by rw [ByteArray.size_append]; show _ + 2 ≤ _; omega, HQ⟩
        case measure => simp [intOf]; omega
      by_cases c13 : s[i] = 13
      · have hx : ∀ h : i < s.size, ((s[i]'h).toNat : Int) = 13 := fun _ => by rw [c13]; rfl
        have HQ := Lib.hid (HST.out ⟨#[92, 114]⟩ (by rw [c13]; rfl))
        clear c13
        go_wp2
        go_round
        case rel => exact ⟨i + 1, _, by go_num, rfl, by omega, by rw [ByteArray.size_append]; show _ + 2 ≤ _; omega, HQ⟩
        case measure => simp [intOf]; omega
      obtain ⟨n, hx⟩ : ∃ n : Int, ∀ h : i < s.size, ((s[i]'h).toNat : Int) = n := ⟨(s[i].toNat : Int), fun _ => rfl⟩
      have hn := hx hlt
      have n9 : (n == 9) = false := byte_ne s[i] 9 (by decide) c9 n hn
      have n10 : (n == 10) = false := byte_ne s[i] 10 (by decide) c10 n hn
      have n13 : (n == 13) = false := byte_ne s[i] 13 (by decide) c13 n hn
      by_cases c34 : s[i] = 34
      · clear hx
        have hx : ∀ h : i < s.size, ((s[i]'h).toNat : Int) = 34 := fun _ => by rw [c34]; rfl
        have HQ := Lib.hid (HST.out (⟨#[92]⟩ ++ s.extract i (i + 1)) (by rw [data_app, HSL.out, c34]; rfl))
        clear c34 c9 c10 c13 n9 n10 n13 hn
        go_wp2
        go_round
        case rel => exact ⟨i + 1, _, by go_num, rfl, by omega, by simp only [ByteArray.size_append, ByteArray.size_extract]; rw [show (⟨#[92]⟩ : ByteArray).size = 1 from rfl]; omega, Lib.hid (by have := HQ.out; rw [← ByteArray.append_assoc] at this; exact this)⟩
        case measure => simp [intOf]; omega
      by_cases c92 : s[i] = 92
      · clear hx
        have hx : ∀ h : i < s.size, ((s[i]'h).toNat : Int) = 92 := fun _ => by rw [c92]; rfl
        have HQ := Lib.hid (HST.out (⟨#[92]⟩ ++ s.extract i (i + 1)) (by rw [data_app, HSL.out, c92]; rfl))
        clear c34 c9 c10 c13 n9 n10 n13 hn c92
        go_wp2
        go_round
        case rel => exact ⟨i + 1, _, by go_num, rfl, by omega, by simp only [ByteArray.size_append, ByteArray.size_extract]; rw [show (⟨#[92]⟩ : ByteArray).size = 1 from rfl]; omega, Lib.hid (by have := HQ.out; rw [← ByteArray.append_assoc] at this; exact this)⟩
        case measure => simp [intOf]; omega
      have n34 : (n == 34) = false := byte_ne s[i] 34 (by decide) c34 n hn
      have n92 : (n == 92) = false := byte_ne s[i] 92 (by decide) c92 n hn
      have HQ := Lib.hid (HST.out (s.extract i (i + 1)) (by rw [HSL.out]; simp [escQ, c9, c10, c13, c34, c92]))
      clear c34 c9 c10 c13 c92 hn
      go_wp2
      go_round
      case rel => exact ⟨i + 1, _, by go_num, rfl, by omega, by simp only [ByteArray.size_append, ByteArray.size_extract]; omega, HQ⟩
      case measure => simp [intOf]; omega
    · go_wp2
      go_ret
      refine ⟨?_, rfl⟩
      have h := HO.out
      rw [List.take_of_length_le (by simp; omega)] at h
      have e : o ++ ⟨#[34]⟩ = ⟨(quotQ s.data.toList).toArray⟩ := by
        apply ByteArray.ext
        apply Array.ext'
        rw [data_app, h]
        simp [quotQ]
      rw [← e]
      rfl
/-- A term's text. -/
def textQ (t : T) : Bs := if t.k = 1 then 60 :: (t.s ++ [62]) else if t.k = 2 then 95 :: 58 :: t.s else if t.la ≠ [] then quotQ t.s ++ 64 :: t.la else if t.ty ≠ [] then quotQ t.s ++ (94 :: 94 :: 60 :: (t.ty ++ [62])) else quotQ t.s
theorem str_eq (a : ByteArray) (l : Bs) (h : a.data.toList = l) : a = ⟨l.toArray⟩ := by
  apply ByteArray.ext; apply Array.ext'; simpa using h
theorem quotQ_len (l : Bs) : (quotQ l).length ≤ 2 * l.length + 2 := by
  have := escs_len l
  simp only [quotQ, List.length_cons, List.length_append, List.length_nil]; omega
theorem nonempty_mk (l : Bs) (h : l ≠ []) : (⟨l.toArray⟩ : ByteArray).toList.isEmpty = false := by
  rw [ByteArray.toList_mk]
  cases l
  · exact absurd rfl h
  · rfl
set_option maxHeartbeats 1600000 in
set_option maxRecDepth 100000 in
theorem text_any (t : T) (w : World) (h1 : t.s.length ≤ 100000000) (h2 : t.la.length ≤ 100000000) (h3 : t.ty.length ≤ 100000000) :
    Calls Tryd.prog 15 #[t.val] w fun e w' => e = .returned (.string ⟨(textQ t).toArray⟩) ∧ Below w.heap.size w w' := by
  obtain ⟨k, s, la, ty⟩ := t
  simp only at h1 h2 h3
  unfold T.val tval
  have z1 := size_of s
  have z2 := size_of la
  have z3 := size_of ty
  have hq := fun W => quoted_any ⟨s.toArray⟩ W (by omega)
  have hql := quotQ_len s
  have z4 := size_of (quotQ s)
  by_cases k1 : k = 1
  · subst k1
    have HE := Lib.hid (show (⟨(textQ ⟨1, s, la, ty⟩).toArray⟩ : ByteArray) = ⟨#[60]⟩ ++ ⟨s.toArray⟩ ++ ⟨#[62]⟩ by symm; apply str_eq; simp [textQ, data_app])
    clear hq hql z4
    generalize (⟨s.toArray⟩ : ByteArray) = sb at *
    have q1 : 1 + sb.size + 1 ≤ 9223372036854775807 := by omega
    have q2 : 1 + sb.size ≤ 9223372036854775807 := by omega
    go_enter Tryd.func15, Tryd.ntmps15
    go_wp2
    go_ret
    exact ⟨by rw [HE.out]; rfl, (Below.refl _ w).alloc (Nat.le_refl _) _⟩
  have b1 : (k == 1) = false := beq_eq_false_iff_ne.2 k1
  by_cases k2 : k = 2
  · subst k2
    have HE := Lib.hid (show (⟨(textQ ⟨2, s, la, ty⟩).toArray⟩ : ByteArray) = ⟨#[95, 58]⟩ ++ ⟨s.toArray⟩ by symm; apply str_eq; simp [textQ, data_app])
    clear hq hql z4 b1 k1
    generalize (⟨s.toArray⟩ : ByteArray) = sb at *
    have q2 : 2 + sb.size ≤ 9223372036854775807 := by omega
    go_enter Tryd.func15, Tryd.ntmps15
    go_wp2
    go_ret
    exact ⟨by rw [HE.out]; rfl, (Below.refl _ w).alloc (Nat.le_refl _) _⟩
  have b2 : (k == 2) = false := beq_eq_false_iff_ne.2 k2
  rw [show (⟨s.toArray⟩ : ByteArray).data.toList = s by simp] at hq
  by_cases hl : la = []
  · subst hl
    by_cases ht : ty = []
    · subst ht
      have HE := Lib.hid (show textQ ⟨k, s, [], []⟩ = quotQ s by simp [textQ, k1, k2])
      rw [HE.out]
      generalize (⟨(quotQ s).toArray⟩ : ByteArray) = qb at *
      generalize (⟨s.toArray⟩ : ByteArray) = sb at *
      have HQ := Lib.hid hq
      clear hq hql z4 k1 k2 z2 z3
      go_enter Tryd.func15, Tryd.ntmps15
      go_wp2_with ((with_reducible refine (HQ.out _).mono ?_); rintro e w' ⟨rfl, rfl⟩)
      go_ret
      exact ⟨rfl, (Below.refl _ w).alloc (Nat.le_refl _) _⟩
    · have hne := nonempty_mk ty ht
      have HE := Lib.hid (show (⟨(textQ ⟨k, s, [], ty⟩).toArray⟩ : ByteArray) = ⟨(quotQ s).toArray⟩ ++ ⟨#[94, 94, 60]⟩ ++ ⟨ty.toArray⟩ ++ ⟨#[62]⟩ by symm; apply str_eq; simp [textQ, k1, k2, ht, data_app])
      rw [HE.out]
      generalize (⟨(quotQ s).toArray⟩ : ByteArray) = qb at *
      generalize (⟨s.toArray⟩ : ByteArray) = sb at *
      generalize (⟨ty.toArray⟩ : ByteArray) = tb at *
      have HQ := Lib.hid hq
      have q1 : qb.size + 3 + tb.size + 1 ≤ 9223372036854775807 := by omega
      have q2 : qb.size + 3 + tb.size ≤ 9223372036854775807 := by omega
      have q3 : qb.size + 3 ≤ 9223372036854775807 := by omega
      clear hq hql z4 k1 k2 z2 ht HE
      go_enter Tryd.func15, Tryd.ntmps15
      go_wp2_with fail
      go_quiet ((first | (with_reducible exact quietEq (HQ.out _))))
      go_wp2
      go_ret
      exact ⟨rfl, bel_dn ((Below.refl _ w).alloc (Nat.le_refl _) _) _⟩
  · have hne := nonempty_mk la hl
    have HE := Lib.hid (show (⟨(textQ ⟨k, s, la, ty⟩).toArray⟩ : ByteArray) = ⟨(quotQ s).toArray⟩ ++ ⟨#[64]⟩ ++ ⟨la.toArray⟩ by symm; apply str_eq; simp [textQ, k1, k2, hl, data_app])
    rw [HE.out]
    generalize (⟨(quotQ s).toArray⟩ : ByteArray) = qb at *
    generalize (⟨s.toArray⟩ : ByteArray) = sb at *
    generalize (⟨la.toArray⟩ : ByteArray) = tb at *
    have HQ := Lib.hid hq
    have q2 : qb.size + 1 + tb.size ≤ 9223372036854775807 := by omega
    have q3 : qb.size + 1 ≤ 9223372036854775807 := by omega
    clear hq hql z4 k1 k2 z3 hl HE
    go_enter Tryd.func15, Tryd.ntmps15
    go_wp2_with fail
    go_quiet ((first | (with_reducible exact quietEq (HQ.out _))))
    go_wp2
    go_ret
    exact ⟨rfl, bel_dn ((Below.refl _ w).alloc (Nat.le_refl _) _) _⟩
end Go.Proofs.YtpgoemlnjocmhaaDoor.Nt
