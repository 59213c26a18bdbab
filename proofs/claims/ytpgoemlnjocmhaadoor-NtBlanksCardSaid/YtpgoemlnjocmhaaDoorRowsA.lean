/-
  A part of the proof (whatever the input, the law returns true and the input reads as it did): copying within, and storing into, a row of one's own whose elements take several cells. Conditions stand at each theorem.
-/
import Derived.Laws.CopyOwn
import Derived.Below
import Derived.Test.YtpgoemlnjocmhaaDoorProg
namespace Go.Proofs.YtpgoemlnjocmhaaDoor.Nt
open Go.RowKit
set_option linter.unusedVariables false
set_option linter.unusedSimpArgs false

theorem own_splice {w w' : World} {base : Nat} {e : TypeId} {sz g cap n : Nat} {xs : List Value} (h : w.ownsRow base e sz (.slice (some ⟨g, 0, none⟩) n cap) n xs) (off : Nat) (cs : List Value) (hfit : off + cs.length ≤ xs.length)
    {cur : Array Value} (hg : w.heap[g]? = some (.cells cur e (0, 0))) (hw : w' = w.setRow g (cur.toList.take off ++ cs ++ cur.toList.drop (off + cs.length)).toArray) :
    w'.ownsRow base e sz (.slice (some ⟨g, 0, none⟩) n cap) n (splice xs off cs) ∧ w.grownBy w' (some g) := by
  subst hw
  obtain ⟨hx, h1⟩ := h
  rcases h1 with ⟨hv, _⟩ | ⟨g', cap', cur', hv, hb, hh, hnc, hcm, hcs, htk⟩
  · cases hv
  injection hv with ha _ hc
  injection ha with ha
  injection ha with hg'
  subst hg'; subst hc
  have : cur' = cur := by rw [hg] at hh; injection hh with hh; injection hh with h1 h2 h3; exact h1.symm
  subst this
  have hlen : cur'.toList.length = cap * sz := by rw [Array.length_toList]; exact hcs
  have hnn : n * sz ≤ cap * sz := Nat.mul_le_mul_right _ hnc
  refine ⟨⟨by rw [length_splice _ _ _ hfit]; exact hx, .inr ⟨g, cap, _, rfl, hb, setRow_heap w g _ _ e _ hg, hnc, hcm, ?_, ?_⟩⟩, ?_⟩
  · simp only [List.size_toArray, List.length_append, List.length_take, List.length_drop, hlen]
    omega
  · rw [← htk, splice, List.toList_toArray]
    apply List.ext_getElem?
    intro j
    have e1 : (List.take off cur'.toList).length = off := by rw [List.length_take]; omega
    have e2 : (List.take off (List.take (n * sz) cur'.toList)).length = off := by rw [List.length_take, List.length_take]; omega
    by_cases hj : j < n * sz
    · rw [List.getElem?_take_of_lt hj]
      by_cases h1 : j < off
      · rw [List.append_assoc, List.getElem?_append_left (by omega), List.getElem?_append_left (by omega), List.getElem?_take_of_lt h1, List.getElem?_take_of_lt h1, List.getElem?_take_of_lt hj]
      · rw [List.append_assoc, List.getElem?_append_right (l₁ := List.take off cur'.toList) (by omega), List.getElem?_append_right (l₁ := List.take off (List.take (n * sz) cur'.toList)) (by omega), e1, e2]
        by_cases h2 : j - off < cs.length
        · rw [List.getElem?_append_left h2, List.getElem?_append_left h2]
        · rw [List.getElem?_append_right (by omega), List.getElem?_append_right (by omega), List.getElem?_drop, List.getElem?_drop, List.getElem?_take_of_lt (by omega)]
    · rw [List.getElem?_take_eq_none (by omega)]
      symm
      apply List.getElem?_eq_none
      simp only [List.length_append, List.length_take, List.length_drop, hlen]
      omega
  · exact ⟨rfl, rfl, rfl, by simp [World.setRow], fun k hk hne => setRow_other w g k _ (fun he => hne (by rw [he]))⟩
theorem run_copy_nothing {P : Program} (w : World) (dT sT ty elem : TypeId) (sz : Nat) (d a : Option Addr) (dLen dCap sLen sCap : Nat) (hu : P.underlying dT = some (.slice elem)) (hs : (P.info? elem).map (·.size) = some sz) (hn : Nat.min sLen dLen = 0) :
    (Builtin.copy_ #[dT, sT] ty #[.slice d dLen dCap, .slice a sLen sCap]).run P w = .ok (goInt 0) w := by
  cases hq : P.info? elem with
  | none => simp [hq] at hs
  | some i =>
    have hl : ∀ (x : Addr), (loadCells x 0).run P w = .ok #[] w := fun x => by simpa using run_loadCells_list (P := P) w x [] (by simp)
    cases d <;> cases a <;> simp [Builtin.copy_, run_underlying hu, Builtin.lenOf, Builtin.firstCells, sizeOf, typeInfo, hq, hn, storeCells, hl]
theorem run_copy_rows {P : Program} (w : World) (dT sT ty elem : TypeId) (sz g o dLen dCap : Nat) (a : Addr) (sLen sCap : Nat) (cur : Array Value) (t : TypeId) (cs : List Value)
    (hu : P.underlying dT = some (.slice elem)) (hs : (P.info? elem).map (·.size) = some sz)
    (hg : w.heap[g]? = some (.cells cur t (0, 0))) (hn : cs.length = Nat.min sLen dLen * sz)
    (hsrc : ∀ j v, cs[j]? = some v → w.cell? (a.add j) = some v) (hfit : o + cs.length ≤ cur.size) (h1 : ∀ v ∈ cs, v.oneCell' = true) :
    (Builtin.copy_ #[dT, sT] ty #[.slice (some ⟨g, o, none⟩) dLen dCap, .slice (some a) sLen sCap]).run P w =
      .ok (goInt (Nat.min sLen dLen)) (w.setRow g (cur.toList.take o ++ cs ++ cur.toList.drop (o + cs.length)).toArray) := by
  have hl := run_loadCells_list (P := P) w a cs hsrc
  have hst := run_storeCells_at P g o t cs 0 cur w hg (by simpa using hfit) h1
  cases hq : P.info? elem with
  | none => simp [hq] at hs
  | some i =>
    have hi : i.size = sz := by simpa [hq] using hs
    simp [Builtin.copy_, run_underlying hu, Builtin.lenOf, Builtin.firstCells, sizeOf, typeInfo, hq, hi, ← hn, hl, hst]
/-- copy(out[i:], ..), out a row of one's own. -/
theorem wpList_copy_rows {P : Program} {w : World} {ops : Array Oper} {rest : List Oper} {o : Oper} {a : Act} {Q : Exit → Act → World → Prop} (hgd : o.guard = none) (d s : Operand) (dT sT : TypeId)
    (ho : o.op = .call { callee := .builtin .copy, args := #[d, s], argTypes := #[dT, sT] }) (elem : TypeId) (hu : P.underlying dT = some (.slice elem)) (sz : Nat) (hsz : (P.info? elem).map (·.size) = some sz)
    (dp sp : Option Addr) (dLen dCap sLen sCap : Nat) (hd : a.eval d = .slice dp dLen dCap) (hs : a.eval s = .slice sp sLen sCap)
    (base g n cap off : Nat) (xs : List Value) (hown : w.ownsRow base elem sz (.slice (some ⟨g, 0, none⟩) n cap) n xs) (cs : List Value) (hn : cs.length = Nat.min sLen dLen * sz) (hs0 : 0 < sz)
    (hpos : 0 < cs.length → dp = some ⟨g, off, none⟩ ∧ ∃ ad, sp = some ad ∧ ∀ j v, cs[j]? = some v → w.cell? (ad.add j) = some v)
    (hfit : off + cs.length ≤ xs.length) (h1 : ∀ v ∈ cs, v.oneCell' = true)
    (h : ∀ w' m, Hid (w'.ownsRow base elem sz (.slice (some ⟨g, 0, none⟩) n cap) n (splice xs off cs)) → w.grownBy w' (some g) → wpList P ops Q rest (a.put o.dst (goInt m)) w') :
    wpList P ops Q (o :: rest) a w := by
  refine wpList_plain hgd fun K hK => ?_
  by_cases h0 : cs.length = 0
  · obtain rfl : cs = [] := List.eq_nil_of_length_eq_zero h0
    have hm : Nat.min sLen dLen = 0 := by
      rcases Nat.mul_eq_zero.1 hn.symm with h2 | h2
      · exact h2
      · omega
    have hrun := run_copy_nothing (P := P) w dT sT o.type elem sz dp sp dLen dCap sLen sCap hu hsz hm
    unfold Oper.wp
    simp [execOp, ho, resolve, invoke, builtin, hd, hs, hrun, Result.andThen]
    have e : splice xs off ([] : List Value) = xs := by simp [splice]
    exact hK _ _ (h w 0 (show _ = _ ∧ _ from by rw [e]; exact hown) ⟨rfl, rfl, rfl, Nat.le_refl _, fun _ _ _ => rfl⟩)
  · obtain ⟨rfl, ad, rfl, hsrc⟩ := hpos (by omega)
    obtain ⟨hx, h2⟩ := id hown
    rcases h2 with ⟨hv, _⟩ | ⟨g', cap', cur, hv, hb, hh, hnc, hcm, hcs, htk⟩
    · cases hv
    injection hv with ha _ hc
    injection ha with ha
    injection ha with hg'
    subst hg'; subst hc
    have hnn : n * sz ≤ cap * sz := Nat.mul_le_mul_right _ hnc
    have hrun := run_copy_rows (P := P) w dT sT o.type elem sz g off dLen dCap ad sLen sCap cur elem cs hu hsz hh hn hsrc (by omega) h1
    obtain ⟨k1, k2⟩ := own_splice hown off cs hfit hh rfl
    unfold Oper.wp
    simp only [execOp, ho, resolve, invoke, builtin, List.map_toArray, List.map_cons, List.map_nil, hd, hs, Sem.run_bind, Sem.run_pure, Result.andThen_ok, hrun]
    simp [Result.andThen, hrun]
    rw [List.append_assoc] at k1 k2
    exact hK _ _ (h _ _ k1 k2)
theorem run_store_rows {P : Program} (w : World) (g o : Nat) (ty : TypeId) (t : TypeId) (cur cells : Array Value) (hg : w.heap[g]? = some (.cells cur t (0, 0))) (hfit : o + cells.size ≤ cur.size) (hi : (P.info? ty).map (·.size) = some cells.size) (h1 : ∀ v ∈ cells.toList, v.oneCell' = true) :
    (Instr.storeAt ty (.pointer (some ⟨g, o, none⟩)) (.agg cells)).run P w = .ok () (w.setRow g (cur.toList.take o ++ cells.toList ++ cur.toList.drop (o + cells.toList.length)).toArray) := by
  have hst := run_storeCells_at P g o t cells.toList 0 cur w hg (by simpa using hfit) h1
  simp only [Nat.add_zero] at hst
  cases hq : P.info? ty with
  | none => simp [hq] at hi
  | some i =>
    have hs : cells.size = i.size := by simp [hq] at hi; omega
    simp only [Instr.storeAt, Instr.sureAddr, Sem.run_bind, Sem.run_pure, Result.andThen_ok]
    simp [storeVar, sizeOf, typeInfo, hq, Value.cells, hs, hst]
/-- out[i] = x, out a row of one's own. -/
theorem wpList_store_rows {P : Program} {w : World} {ops : Array Oper} {rest : List Oper} {o : Oper} {a : Act} {Q : Exit → Act → World → Prop} (hgd : o.guard = none) (ty : TypeId) (x y : Operand) (ho : o.op = .store ty x y)
    (base g n cap off : Nat) (elem : TypeId) (sz : Nat) (xs : List Value) (cells : Array Value) (hx : a.eval x = .pointer (some ⟨g, off, none⟩)) (hy : a.eval y = .agg cells)
    (hown : w.ownsRow base elem sz (.slice (some ⟨g, 0, none⟩) n cap) n xs) (hfit : off + cells.size ≤ xs.length) (hi : (P.info? ty).map (·.size) = some cells.size) (h1 : ∀ v ∈ cells.toList, v.oneCell' = true)
    (h : ∀ w', Hid (w'.ownsRow base elem sz (.slice (some ⟨g, 0, none⟩) n cap) n (splice xs off cells.toList)) → w.grownBy w' (some g) → wpList P ops Q rest (a.put o.dst undef) w') :
    wpList P ops Q (o :: rest) a w := by
  refine wpList_plain hgd fun K hK => ?_
  obtain ⟨hx', h2⟩ := id hown
  rcases h2 with ⟨hv, _⟩ | ⟨g', cap', cur, hv, hb, hh, hnc, hcm, hcs, htk⟩
  · cases hv
  injection hv with ha _ hc
  injection ha with ha
  injection ha with hg'
  subst hg'; subst hc
  have hnn : n * sz ≤ cap * sz := Nat.mul_le_mul_right _ hnc
  have hrun := run_store_rows (P := P) w g off ty elem cur cells hh (by omega) hi h1
  obtain ⟨k1, k2⟩ := own_splice hown off cells.toList (by simpa using hfit) hh rfl
  unfold Oper.wp execOp
  simp only [ho, hx, hy, Sem.run_bind, Sem.run_pure, Result.andThen_ok, hrun]
  exact hK _ _ (h _ k1 k2)
end Go.Proofs.YtpgoemlnjocmhaaDoor.Nt
