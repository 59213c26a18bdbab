/-
  A part of the proof (whatever the input, the law returns true and the input reads as it did): the graph of triples. Conditions stand at each theorem.
-/
import Derived.Test.YtpgoemlnjocmhaaDoorTrmC
import Derived.Test.YtpgoemlnjocmhaaDoorRowsA
import Derived.Deep.AppendLies
import Derived.Deep.MidRow
import Derived.Deep.DeepCutAuto
import Derived.Deep.CutBlock
import Derived.IntWalk
namespace Go.Proofs.YtpgoemlnjocmhaaDoor.Nt
open Go.RowKit Go.Proofs.YtpgoemlnjocmhaaDoorW.PrintWords
set_option linter.unusedVariables false
set_option linter.unusedSimpArgs false

/-- Where a triple goes. -/
def posT (out : List T3) (x : T3) : Nat → Nat
  | 0 => 0
  | n + 1 => if lessT x (out.getD n x) = true then posT out x n else n + 1
def insT (out : List T3) (x : T3) : List T3 :=
  let n := posT out x out.length
  if 0 < n ∧ out.getD (n - 1) x = x then out else out.take n ++ x :: out.drop n
def setT (l : List T3) : List T3 := l.foldl insT []
theorem posT_le (out : List T3) (x : T3) (n : Nat) : posT out x n ≤ n := by
  induction n with
  | zero => exact Nat.le_refl _
  | succ n ih => unfold posT; split <;> omega
theorem insT_len (out : List T3) (x : T3) : (insT out x).length ≤ out.length + 1 := by
  unfold insT
  have h := posT_le out x out.length
  simp only
  split
  · omega
  · simp; omega
theorem setT_snoc (l : List T3) (x : T3) : setT (l ++ [x]) = insT (setT l) x := by simp [setT]
theorem setT_len (l : List T3) : (setT l).length ≤ l.length := by
  have : ∀ (l o : List T3), (l.foldl insT o).length ≤ o.length + l.length := by
    intro l
    induction l with
    | nil => intro o; simp
    | cons x l ih => intro o; have := ih (insT o x); have := insT_len o x; simp at *; omega
  have h := this l []
  simpa [setT] using h
/-- A row of triples that is there to be read. -/
def TriRow (w : World) (v : Value) (l : List T3) : Prop :=
  ∃ A c, v = .slice A l.length c ∧ ∀ k (h : k < l.length), ∃ x : Addr, A = some x ∧ w.cell? (x.add (k * 12)) = some (.int .i64 l[k].a.k) ∧ ∀ j u, (triL l[k])[j]? = some u → 0 < j → w.cell? ⟨(x.add (k * 12)).block, (x.add (k * 12)).off + j, none⟩ = some u
theorem cells3_get (l : List T3) : ∀ (k : Nat) (h : k < l.length) (j : Nat) (u : Value), (triL l[k])[j]? = some u → (cells3 l)[k * 12 + j]? = some u := by
  induction l with
  | nil => intro k h; simp at h
  | cons t l ih =>
    intro k h j u hu
    have e : cells3 (t :: l) = triL t ++ cells3 l := rfl
    have hl : (triL t).length = 12 := rfl
    rw [e]
    cases k with
    | zero =>
      have hj : j < 12 := by
        rcases Nat.lt_or_ge j 12 with h1 | h1
        · exact h1
        · exfalso
          have : (triL t)[j]? = none := List.getElem?_eq_none (by rw [hl]; exact h1)
          simp [this] at hu
      rw [show 0 * 12 + j = j by omega, List.getElem?_append_left (by omega)]
      exact hu
    | succ k =>
      rw [show (k + 1) * 12 + j = 12 + (k * 12 + j) by omega, List.getElem?_append_right (by omega), hl]
      rw [show 12 + (k * 12 + j) - 12 = k * 12 + j by omega]
      exact ih k (by simpa using h) j u hu
theorem TriRow.of {w : World} {B : Nat} {v : Value} {l : List T3} (h : w.ownsRow B 42 12 v l.length (cells3 l)) : TriRow w v l := by
  obtain ⟨A, c, rfl⟩ := own_slice h
  refine ⟨A, c, rfl, fun k hk => ?_⟩
  have h1 := cells3_get l k hk
  rcases h.2 with ⟨he, hn⟩ | ⟨g, cap, cur, he, _⟩
  · omega
  · injection he with he1 he2 he3
    subst he1
    have ha : ∀ j, (⟨g, 0, none⟩ : Addr).add j = ⟨g, j, none⟩ := fun j => by unfold Addr.add; split <;> simp_all
    have h2 := h.cells (g := g) rfl
    refine ⟨_, rfl, ?_, fun j u hu hj => ?_⟩
    · exact h2 _ _ (h1 0 _ rfl)
    · have h3 := h2 _ _ (h1 j u hu)
      rw [ha] at h3 ⊢
      exact h3
theorem TriRow.below {w w1 : World} {v : Value} {l : List T3} (h : TriRow w v l) (hb : Below w.heap.size w w1) : TriRow w1 v l := by
  obtain ⟨A, c, he, hc⟩ := h
  refine ⟨A, c, he, fun k hk => ?_⟩
  obtain ⟨x, h1, h2, h3⟩ := hc k hk
  exact ⟨x, h1, (hb.cell (World.block_lt_of_cell? w _ h2)).trans h2, fun j u hu hj => (hb.cell (World.block_lt_of_cell? w _ (h3 j u hu hj))).trans (h3 j u hu hj)⟩

theorem TriRow.at12 {w : World} {A : Option Addr} {n c : Nat} {l : List T3} (h : TriRow w (.slice A n c) l) (i : Nat) (t : T3) (ht : l[i]? = some t) : ∃ x : Addr, A = some x ∧
    w.cell? (x.add (i * 12)) = some (.int .i64 t.a.k) ∧ w.cell? ⟨(x.add (i * 12)).block, (x.add (i * 12)).off + 1, none⟩ = some (.string ⟨t.a.s.toArray⟩) ∧ w.cell? ⟨(x.add (i * 12)).block, (x.add (i * 12)).off + 2, none⟩ = some (.string ⟨t.a.la.toArray⟩) ∧ w.cell? ⟨(x.add (i * 12)).block, (x.add (i * 12)).off + 3, none⟩ = some (.string ⟨t.a.ty.toArray⟩) ∧
    w.cell? ⟨(x.add (i * 12)).block, (x.add (i * 12)).off + 4, none⟩ = some (.int .i64 t.b.k) ∧ w.cell? ⟨(x.add (i * 12)).block, (x.add (i * 12)).off + 5, none⟩ = some (.string ⟨t.b.s.toArray⟩) ∧ w.cell? ⟨(x.add (i * 12)).block, (x.add (i * 12)).off + 6, none⟩ = some (.string ⟨t.b.la.toArray⟩) ∧ w.cell? ⟨(x.add (i * 12)).block, (x.add (i * 12)).off + 7, none⟩ = some (.string ⟨t.b.ty.toArray⟩) ∧
    w.cell? ⟨(x.add (i * 12)).block, (x.add (i * 12)).off + 8, none⟩ = some (.int .i64 t.c.k) ∧ w.cell? ⟨(x.add (i * 12)).block, (x.add (i * 12)).off + 9, none⟩ = some (.string ⟨t.c.s.toArray⟩) ∧ w.cell? ⟨(x.add (i * 12)).block, (x.add (i * 12)).off + 10, none⟩ = some (.string ⟨t.c.la.toArray⟩) ∧ w.cell? ⟨(x.add (i * 12)).block, (x.add (i * 12)).off + 11, none⟩ = some (.string ⟨t.c.ty.toArray⟩) := by
  obtain ⟨A', c', he, hc⟩ := h
  injection he with e1 e2 e3
  subst e1
  obtain ⟨hi, rfl⟩ := List.getElem?_eq_some_iff.1 ht
  obtain ⟨x, hx, h0, h1⟩ := hc i hi
  exact ⟨x, hx, h0, h1 1 _ rfl (by omega), h1 2 _ rfl (by omega), h1 3 _ rfl (by omega), h1 4 _ rfl (by omega), h1 5 _ rfl (by omega), h1 6 _ rfl (by omega), h1 7 _ rfl (by omega), h1 8 _ rfl (by omega), h1 9 _ rfl (by omega), h1 10 _ rfl (by omega), h1 11 _ rfl (by omega)⟩
theorem less_any2 (x y : T3) (w : World) (r : Bool) (hr : lessT x y = r) :
    Calls Tryd.prog 32 #[.agg (triC x.a x.b x.c), .agg (triC y.a y.b y.c)] w fun e w' => e = .returned (.bool r) ∧ Below w.heap.size w w' := hr ▸ less_any x y w
theorem posT_step {out : List T3} {x u : T3} {j : Nat} (h0 : 0 < j) (hu : out[j - 1]? = some u) : posT out x j = if lessT x u = true then posT out x (j - 1) else j := by
  obtain ⟨k, rfl⟩ : ∃ k, j = k + 1 := ⟨j - 1, by omega⟩
  rw [show k + 1 - 1 = k by omega] at hu ⊢
  rw [posT, List.getD_eq_getElem?_getD, hu]
  rfl

theorem own_capm {W : World} {base n c : Nat} {e : TypeId} {size : Nat} {A : Option Addr} {xs : List Value} (h : W.ownsRow base e size (.slice A n c) n xs) : c ≤ 9223372036854775807 := by
  rcases h.2 with ⟨h1, h2⟩ | ⟨g, cap, cur, h1, _, _, h2, h3, _⟩
  · injection h1 with _ h3 h4
    omega
  · injection h1 with _ _ h4
    unfold maxLen at h3
    omega
theorem cells3_append (l m : List T3) : cells3 (l ++ m) = cells3 l ++ cells3 m := by simp [cells3]
theorem cells3_take (l : List T3) (k : Nat) : (cells3 l).take (k * 12) = cells3 (l.take k) := by
  by_cases h : k ≤ l.length
  · have e : cells3 l = cells3 (l.take k) ++ cells3 (l.drop k) := by rw [← cells3_append, List.take_append_drop]
    rw [e, List.take_append_of_le_length (by rw [cells3_len, List.length_take]; omega), List.take_of_length_le (by rw [cells3_len, List.length_take]; omega)]
  · rw [List.take_of_length_le (by rw [cells3_len]; omega), List.take_of_length_le (by omega)]
theorem cells3_drop (l : List T3) (k : Nat) : (cells3 l).drop (k * 12) = cells3 (l.drop k) := by
  by_cases h : k ≤ l.length
  · have e : cells3 l = cells3 (l.take k) ++ cells3 (l.drop k) := by rw [← cells3_append, List.take_append_drop]
    have hk : (cells3 (l.take k)).length = k * 12 := by rw [cells3_len, List.length_take]; omega
    rw [e, ← hk, List.drop_left]
  · rw [List.drop_eq_nil_of_le (by rw [cells3_len]; omega), List.drop_eq_nil_of_le (by omega)]; rfl
theorem cells3_splice (L M : List T3) (o : Nat) : cells3 (splice L o M) = splice (cells3 L) (o * 12) (cells3 M) := by
  unfold splice
  rw [cells3_append, cells3_append, cells3_take, cells3_len, ← cells3_drop, show o * 12 + M.length * 12 = (o + M.length) * 12 by omega]
theorem ins_splice (out : List T3) (z t : T3) (j : Nat) (hj : j ≤ out.length) : splice (splice (out ++ [z]) (j + 1) (out.drop j)) j [t] = out.take j ++ t :: out.drop j := by
  unfold splice
  have e1 : (out ++ [z]).drop (j + 1 + (out.drop j).length) = [] := List.drop_eq_nil_of_le (by simp; omega)
  rw [e1, List.append_nil]
  have e2 : ((out ++ [z]).take (j + 1)).length = j + 1 := by simp; omega
  rw [List.take_append_of_le_length (by omega), List.take_take, show min j (j + 1) = j by omega, List.take_append_of_le_length (by omega)]
  simp only [List.length_singleton]
  rw [List.drop_left' e2]
  rfl
def z3 : T3 := ⟨⟨0, [], [], []⟩, ⟨0, [], [], []⟩, ⟨0, [], [], []⟩⟩
theorem z3_cells : triL z3 = zs.toList := rfl
theorem insT_eq {out : List T3} {t : T3} {j : Nat} (h : posT out t out.length = j) (hd : 0 < j → out[j - 1]? = some t) (h0 : 0 < j) : insT out t = out := by
  unfold insT
  simp only [h]
  rw [if_pos ⟨h0, by rw [List.getD_eq_getElem?_getD, hd h0]; rfl⟩]
theorem insT_ne {out : List T3} {t : T3} {j : Nat} (h : posT out t out.length = j) (hd : 0 < j → out[j - 1]? ≠ some t) (hj : j ≤ out.length) : insT out t = out.take j ++ t :: out.drop j := by
  unfold insT
  simp only [h]
  rw [if_neg]
  rintro ⟨h0, h1⟩
  refine hd h0 ?_
  rw [List.getD_eq_getElem?_getD] at h1
  have : j - 1 < out.length := by omega
  rw [List.getElem?_eq_getElem this] at h1 ⊢
  exact congrArg some h1

set_option maxHeartbeats 8000000 in
set_option maxRecDepth 100000 in
theorem set_any (v : Value) (l : List T3) (w : World) (hl : l.length ≤ 100000) (hv : TriRow w v l) :
    Calls Tryd.prog 12 #[v] w fun e w' => ∃ v', e = .returned v' ∧ w'.ownsRow w.heap.size 42 12 v' (setT l).length (cells3 (setT l)) ∧ Below w.heap.size w w' := by
  have HV := Lib.hid hv
  obtain ⟨A, c, rfl, hA⟩ := hv
  clear hA
  obtain ⟨i0, hi0, hz0, hz1, hz2⟩ := info_parts info_tri
  have hszp : (Tryd.prog.info? 42).map (·.size) = some 12 := by kernel_rfl
  have HSZ := Lib.hid hszp
  clear hszp
  go_enter Tryd.func12, Tryd.ntmps12
  go_wp2
  go_loopw [3, 4] (fun v3 v4 wr => ∃ (i : Nat) (out : List T3), v4 = .int .i64 i ∧ i ≤ l.length ∧ Hid (out = setT (l.take i)) ∧ Hid (wr.ownsRow w.heap.size 42 12 v3 out.length (cells3 out)) ∧ Hid (Below w.heap.size w wr)) (fun _ v4 _ => l.length - (intOf v4).toNat)
  case atStart => exact ⟨0, [], rfl, by omega, Lib.hid (by simp [setT]), Lib.hid (own_nil _ _ _ _), Lib.hid (Below.refl _ _)⟩
  case round =>
    obtain ⟨i, out, rfl, hi, HS, HO, HB⟩ := hrel
    rename World => wo
    by_cases hlt : i < l.length
    · obtain ⟨A1, c1, hv1⟩ := own_slice HO.out
      subst hv1
      have hol : out.length ≤ i := by have := HS.out; subst this; have := setT_len (l.take i); simp at this; omega
      obtain ⟨t, ht⟩ : ∃ t, l[i]? = some t := ⟨l[i], by simp [hlt]⟩
      have HTI := Lib.hid ht
      clear ht
      go_upto_block 2 with fail
      go_cut [5] from 14 to 29 (fun s5 wx => ∃ j : Nat, s5 = .int .i64 j ∧ j ≤ out.length ∧ Hid (posT out t out.length = j) ∧ Hid (Below wo.heap.size wo wx))
      case first =>
        go_wp2_with fail
        go_loopw [5] (fun v5 wq => ∃ j : Nat, v5 = .int .i64 j ∧ j ≤ out.length ∧ Hid (posT out t out.length = posT out t j) ∧ Hid (Below wo.heap.size wo wq)) (fun v5 _ => (intOf v5).toNat)
        case atStart => exact ⟨out.length, rfl, by omega, Lib.hid rfl, Lib.hid (Below.refl _ _)⟩
        case round =>
          obtain ⟨j, rfl, hj, HP, HQ⟩ := hrel
          have HVq := Lib.hid ((HV.out.below HB.out).below HQ.out)
          have HOq := Lib.hid (pw_own_below HO.out HQ.out)
          by_cases hj0 : 0 < j
          · obtain ⟨u, hu⟩ : ∃ u, out[j - 1]? = some u := ⟨out[j - 1], by simp [show j - 1 < out.length by omega]⟩
            obtain ⟨x, rfl, x0, x1, x2, x3, x4, x5, x6, x7, x8, x9, x10, x11⟩ := (TriRow.of HOq.out).at12 (j - 1) u hu
            obtain ⟨y, rfl, y0, y1, y2, y3, y4, y5, y6, y7, y8, y9, y10, y11⟩ := HVq.out.at12 i t HTI.out
            have hps := posT_step (x := t) hj0 hu
            have q1 : (0 : Int) ≤ (i : Int) := by omega
            have q2 : (i : Int) < (l.length : Int) := by omega
            have q3 : (0 : Int) < (j : Int) := by omega
            have q4 : IntKind.i64.wrap ((j : Int) - 1) = (j : Int) - 1 := IntWalk.i64_in _ (by omega)
            have q5 : (0 : Int) ≤ (j : Int) - 1 := by omega
            have q6 : (1 : Int) ≤ (j : Int) := by omega
            have q7 : (j : Int) - 1 < (out.length : Int) := by omega
            have q8 : ((j : Int) - 1).toNat = j - 1 := by omega
            cases hr : lessT t u with
            | true =>
              have HL := Lib.hid (fun W => less_any2 t u W _ hr)
              rw [hr, if_pos rfl] at hps
              have HPS := Lib.hid hps
              clear hps hr hu
              go_wp2_with fail
              go_still_tail 12, (by kernel_rfl)
              change wpList _ _ _ _ _ wr.drew
              clear x0 x1 x2 x3 x4 x5 x6 x7 x8 x9 x10 x11 y0 y1 y2 y3 y4 y5 y6 y7 y8 y9 y10 y11 q4 q8
              go_wp2_with fail
              refine (HL.out _).mono ?_
              rintro e w2 ⟨rfl, hb⟩
              have HQ2 := Lib.hid (HQ.out.trans ((Below.refl wr.heap.size wr).drew.trans hb |>.mono HQ.out.size))
              clear hb
              go_wp2
              go_roundw
              case rel => exact ⟨j - 1, by go_num, by omega, Lib.hid (HP.out.trans HPS.out), HQ2⟩
              case measure => simp [intOf]; omega
            | false =>
              have HL := Lib.hid (fun W => less_any2 t u W _ hr)
              rw [hr, if_neg (by simp)] at hps
              have HPS := Lib.hid hps
              clear hps hr hu
              go_wp2_with fail
              go_still_tail 12, (by kernel_rfl)
              change wpList _ _ _ _ _ wr.drew
              clear x0 x1 x2 x3 x4 x5 x6 x7 x8 x9 x10 x11 y0 y1 y2 y3 y4 y5 y6 y7 y8 y9 y10 y11 q4 q8
              go_wp2_with fail
              refine (HL.out _).mono ?_
              rintro e w2 ⟨rfl, hb⟩
              have HQ2 := Lib.hid (HQ.out.trans ((Below.refl wr.heap.size wr).drew.trans hb |>.mono HQ.out.size))
              clear hb
              go_wp2
              go_meet
              exact ⟨j, rfl, hj, Lib.hid (HP.out.trans HPS.out), HQ2⟩
          · obtain rfl : j = 0 := by omega
            have HPS := Lib.hid (HP.out.trans (show posT out t 0 = 0 from rfl))
            have q3 : decide ((0 : Int) < 0) = false := by decide
            go_wp2_with fail
            go_quiet (fail)
            go_wp2
            go_meet
            exact ⟨0, rfl, hj, HPS, Lib.hid (HQ.out.trans (bel_dn (Below.refl _ _) _))⟩
      case rest =>
        obtain ⟨j, rfl, hj, HP, HQ⟩ := hcut
        have HB1 := Lib.hid (HB.out.trans (HQ.out.mono HB.out.size))
        have HV1 := Lib.hid ((HV.out.below HB.out).below HQ.out)
        have HO1 := Lib.hid (pw_own_below HO.out HQ.out)
        clear HB HO HQ
        rename World => w1
        go_upto_region 8 with fail
        go_cut [43] from 30 to 42 (fun s43 wx => s43 = .bool (decide (0 < j ∧ out[j - 1]? = some t)) ∧ ∃ nq, wx = w1.drewN nq)
        case first =>
          by_cases hj0 : 0 < j
          · obtain ⟨u, hu⟩ : ∃ u, out[j - 1]? = some u := ⟨out[j - 1], by simp [show j - 1 < out.length by omega]⟩
            have HD := Lib.hid (show decide (0 < j ∧ out[j - 1]? = some t) = eq3 u t by rw [eq3_iff]; simp [hj0, hu])
            obtain ⟨x, rfl, x0, x1, x2, x3, x4, x5, x6, x7, x8, x9, x10, x11⟩ := (TriRow.of HO1.out).at12 (j - 1) u hu
            obtain ⟨y, rfl, y0, y1, y2, y3, y4, y5, y6, y7, y8, y9, y10, y11⟩ := HV1.out.at12 i t HTI.out
            have q1 : (0 : Int) ≤ (i : Int) := by omega
            have q2 : (i : Int) < (l.length : Int) := by omega
            have q3 : (0 : Int) < (j : Int) := by omega
            have q4 : IntKind.i64.wrap ((j : Int) - 1) = (j : Int) - 1 := IntWalk.i64_in _ (by omega)
            have q5 : (0 : Int) ≤ (j : Int) - 1 := by omega
            have q6 : (1 : Int) ≤ (j : Int) := by omega
            have q7 : (j : Int) - 1 < (out.length : Int) := by omega
            have q8 : ((j : Int) - 1).toNat = j - 1 := by omega
            have he := equalIn_T3 u t
            have hg : Tryd.prog.eqGuardType Tryd.prog.depth 42 = false := by kernel_rfl
            generalize eq3 u t = r at *
            go_quiet (fail)
            go_wp2
            go_meet
            exact ⟨by rw [HD.out], _, rfl⟩
          · have q3 : decide ((0 : Int) < (j : Int)) = false := by simp; omega
            have HD := Lib.hid (show decide (0 < j ∧ out[j - 1]? = some t) = false by simp [hj0])
            go_quiet (fail)
            go_wp2
            go_meet
            exact ⟨by rw [HD.out], _, rfl⟩
        case rest =>
          obtain ⟨rfl, nq, rfl⟩ := hcut
          have hst : setT (l.take (i + 1)) = insT (setT (l.take i)) t := by rw [← setT_snoc, List.take_add_one, HTI.out]; rfl
          rw [← HS.out] at hst
          have HB2 := Lib.hid (bel_dn HB1.out nq)
          have HO2 := Lib.hid (pw_own_drewN HO1.out nq)
          clear HB1 HO1 HV1
          by_cases hd : 0 < j ∧ out[j - 1]? = some t
          · rw [insT_eq HP.out (fun _ => hd.2) hd.1] at hst
            have HS2 := Lib.hid hst.symm
            rw [show decide (0 < j ∧ out[j - 1]? = some t) = true from decide_eq_true hd]
            clear hst hd
            go_wp2
            go_roundw
            case rel => exact ⟨i + 1, out, by go_num, by omega, HS2, HO2, HB2⟩
            case measure => simp [intOf]; omega
          · rw [insT_ne HP.out (fun h0 h1 => hd ⟨h0, h1⟩) hj] at hst
            have HS2 := Lib.hid hst.symm
            rw [show decide (0 < j ∧ out[j - 1]? = some t) = false from decide_eq_false hd]
            clear hst hd
            generalize w1.drewN nq = w2 at *
            have hbs := HB2.out.size
            go_wp2_with (at_builtin; refine wpList_append_lies _ rfl _ _ 34 rfl w.heap.size 42 i0 (.agg zs) 12 168 Tryd.underlying34 hi0 hz0 hz1 hz2 rfl (by omega) _ out.length (cells3 out) rfl (HO2.out.alloc _) ⟨w2.heap.size, 0, none⟩ 1 1 (triL z3) rfl rfl (World.news_of_block (cs := zs) (t := 42) (fr := (0, 0)) (heap_alloc_new w2 _)) (by decide) (by omega) (by unfold maxLen; omega) (by omega) (by simp; omega) (w2.heap.size + 1) (by simp) ?_; intro g cap w3 hown3 hgrow hat hlt3)
            have HO3 := Lib.hid hown3
            have hbb := Lib.hid (own_base HO2.out)
            have HB3 := Lib.hid ((HB2.out.alloc hbs _).grown hgrow (by simp; omega) (fun k hk => hbb.out k hk))
            clear hown3 hgrow hat hlt3
            have hcp := own_cap HO3.out
            have k2 := own_capm HO3.out
            have q4 : IntKind.i64.wrap ((j : Int) + 1) = (j : Int) + 1 := IntWalk.i64_in _ (by omega)
            have q5 : (0 : Int) ≤ (j : Int) + 1 := by omega
            have q6 : (0 : Int) ≤ (j : Int) := by omega
            have q7 : (j : Int) + 1 ≤ (cap : Int) := by omega
            have q8 : ((j : Int) + 1).toNat = j + 1 := by omega
            have q9 : (j : Int) ≤ (cap : Int) := by omega
            have q10 : (j : Int) + 1 ≤ ((out.length : Int) + 1) := by omega
            have q11 : (j : Int) ≤ ((out.length : Int) + 1) := by omega
            go_upto_region 10 with fail
            go_cut [3] from 48 to 55 (fun s3 wx => s3 = .slice (some ⟨g, 0, none⟩) (out.length + 1) cap ∧ Hid (wx.ownsRow w.heap.size 42 12 (.slice (some ⟨g, 0, none⟩) (out.length + 1) cap) (out.length + 1) (cells3 (splice (out ++ [z3]) (j + 1) (out.drop j)))) ∧ Hid (Below w.heap.size w wx))
            case first =>
              have HO4 := Lib.hid (own_drew HO3.out)
              have hbg := own_base HO3.out g rfl
              have HBD := Lib.hid HB3.out.drew
              have HZ := Lib.hid (show cells3 (splice (out ++ [z3]) (j + 1) (out.drop j)) = splice (cells3 out ++ triL z3) ((j + 1) * 12) (cells3 (out.drop j)) by rw [cells3_splice, cells3_snoc])
              by_cases hcj : cap = j + 1
              · have HOJ := Lib.hid (show out.length = j by omega)
                have hdj : cells3 (out.drop j) = [] := by rw [List.drop_eq_nil_of_le (by omega)]; rfl
                have HDJ := Lib.hid hdj
                have q13 : ¬ (j + 1 = j) := by omega
                clear hdj
                subst hcj
                go_still_tail 7, (by kernel_rfl)
                change wpList _ _ _ _ _ w3.drew
                refine wpList_copy_rows rfl _ _ _ _ rfl 42 Tryd.underlying34 12 HSZ.out _ _ _ _ _ _ rfl rfl w.heap.size g (out.length + 1) (j + 1) ((j + 1) * 12) (cells3 out ++ triL z3) HO4.out (cells3 (out.drop j)) ?_ (by omega) ?_ ?_ (cells3_one _) ?_
                · rw [cells3_len, List.length_drop, HOJ.out]; simp
                · rw [HDJ.out]; intro h; simp at h
                · rw [List.length_append, cells3_len, cells3_len, List.length_drop, show (triL z3).length = 12 from rfl]; omega
                · intro w' m h1 h2
                  have HH := Lib.hid h1.out
                  have HB5 := Lib.hid (HBD.out.grown h2 HBD.out.size (fun k hk => by cases hk; exact hbg))
                  clear h1 h2
                  go_wp2
                  go_meet
                  exact ⟨rfl, Lib.hid (by rw [HZ.out]; exact HH.out), HB5⟩
              · have q12 : ¬ (cap = j + 1) := hcj
                have q13 : ¬ (cap = j) := by omega
                go_still_tail 7, (by kernel_rfl)
                change wpList _ _ _ _ _ w3.drew
                refine wpList_copy_rows rfl _ _ _ _ rfl 42 Tryd.underlying34 12 HSZ.out _ _ _ _ _ _ rfl rfl w.heap.size g (out.length + 1) cap ((j + 1) * 12) (cells3 out ++ triL z3) HO4.out (cells3 (out.drop j)) ?_ (by omega) ?_ ?_ (cells3_one _) ?_
                · rw [cells3_len, List.length_drop]
                  congr 1
                  show _ = min _ _
                  omega
                · intro _
                  refine ⟨rfl, ⟨g, j * 12, none⟩, rfl, fun q v hv => ?_⟩
                  have hcs := HO4.out.cells (g := g) rfl (j * 12 + q) v (by
                    rw [← cells3_drop, List.getElem?_drop] at hv
                    rw [List.getElem?_append_left]
                    · exact hv
                    · exact (List.getElem?_eq_some_iff.1 hv).1)
                  rw [add_plain] at hcs
                  rw [Addr.add_mid]
                  exact hcs
                · rw [List.length_append, cells3_len, cells3_len, List.length_drop, show (triL z3).length = 12 from rfl]; omega
                · intro w' m h1 h2
                  have HH := Lib.hid h1.out
                  have HB5 := Lib.hid (HBD.out.grown h2 HBD.out.size (fun k hk => by cases hk; exact hbg))
                  clear h1 h2
                  go_wp2
                  go_meet
                  exact ⟨rfl, Lib.hid (by rw [HZ.out]; exact HH.out), HB5⟩
            case rest =>
              obtain ⟨rfl, HO5, HB5⟩ := hcut
              obtain ⟨y, rfl, y0, y1, y2, y3, y4, y5, y6, y7, y8, y9, y10, y11⟩ := (HV.out.below HB5.out).at12 i t HTI.out
              have hbg := own_base HO5.out g rfl
              rename World => w5
              have HC := Lib.hid (show (cells3 (splice (out ++ [z3]) (j + 1) (out.drop j))).length = (out.length + 1) * 12 by
                rw [cells3_len, length_splice _ _ _ (by simp; omega)]; simp)
              go_wp2_with (refine gate_ (.store 42 (.tmp 62) (.tmp 61)) rfl ?_; refine wpList_store_rows rfl _ _ _ rfl w.heap.size g (out.length + 1) cap (j * 12) 42 12 _ (triC t.a t.b t.c) rfl rfl HO5.out (by rw [HC.out]; simp; omega) HSZ.out (by simp [Value.oneCell']) ?_)
              intro w6 h1 h2
              have HO6 := Lib.hid (show w6.ownsRow w.heap.size 42 12 (.slice (some ⟨g, 0, none⟩) (out.length + 1) cap) (out.length + 1) (cells3 (out.take j ++ t :: out.drop j)) by
                rw [← ins_splice out z3 t j hj, cells3_splice]; exact h1.out)
              have HB6 := Lib.hid (HB5.out.grown h2 HB5.out.size (fun k hk => by cases hk; exact hbg))
              have HL := Lib.hid (show (out.take j ++ t :: out.drop j).length = out.length + 1 by simp; omega)
              clear h1 h2
              go_wp2
              go_roundw
              case rel => exact ⟨i + 1, out.take j ++ t :: out.drop j, by go_num, by omega, HS2, Lib.hid (by rw [HL.out]; exact HO6.out), HB6⟩
              case measure => simp [intOf]; omega
    · go_wp2
      go_ret
      obtain rfl : i = l.length := by omega
      have := HS.out
      rw [List.take_length] at this
      subst this
      exact ⟨_, rfl, HO.out, HB.out⟩
end Go.Proofs.YtpgoemlnjocmhaaDoor.Nt
