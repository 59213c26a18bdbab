/-
  A part of the proof (whatever the input, the law returns true and the input reads as it did): an argument that is a slice of triples, opened. Conditions stand at each theorem.
-/
import Derived.Test.YtpgoemlnjocmhaaDoorTrmD
import Derived.OpenShut
import Derived.Deep.Slices
import Derived.Lib.SmallJoins
import Derived.SizedLaws
import Derived.ChangeArms
namespace Go.Proofs.YtpgoemlnjocmhaaDoor.Nt
open Go.RowKit Go.Proofs.YtpgoemlnjocmhaaDoorW.PrintWords
set_option linter.unusedVariables false
set_option linter.unusedSimpArgs false

def T.small' (t : T) : Prop := t.s.length ≤ 140737488351232 ∧ t.la.length ≤ 140737488351232 ∧ t.ty.length ≤ 140737488351232
section
variable {H : Type} {enc : TypeId × Value → H} {w : World} {base : Nat} {spare : Nat → Bool} {held : Bool}
theorem mem_weightsAll {P : Program} {e : TypeId} {l : List (DataW H)} {d : DataW H} (hd : d ∈ l) {n : Nat} (hn : n ∈ d.weights P e) : n ∈ DataW.weightsAll P e l := by
  induction l with
  | nil => cases hd
  | cons x l ih =>
    rw [DataW.weightsAll, List.mem_append]
    rcases List.mem_cons.1 hd with rfl | h
    · exact Or.inl hn
    · exact Or.inr (ih h)
theorem bs_of (s : ByteArray) : (⟨s.data.toList.toArray⟩ : ByteArray) = s := by simp
set_option maxRecDepth 100000 in
theorem open_term {fuel : Nat} {cs : List Value} {x : DataW H × List MemPlace} (h : DataW.trod enc Tryd.prog w base spare held fuel 40 cs = some x) (hw : ∀ n ∈ x.1.weights Tryd.prog 40, n ≤ reachBytes) :
    ∃ t : T, cs = [.int .i64 t.k, .string ⟨t.s.toArray⟩, .string ⟨t.la.toArray⟩, .string ⟨t.ty.toArray⟩] ∧ t.small' := by
  obtain ⟨y0, y1, y2, y3, n, rfl, hl, h0, h1, h2, h3⟩ := Go.Joins.trod_struct4 Tryd.underlying40 h
  rw [show Tryd.prog.cellsOf 40 = 4 by kernel_rfl] at hl
  match cs, hl with
  | [c0, c1, c2, c3], _ =>
    rw [show Tryd.prog.cellsOf 3 = 1 by kernel_rfl] at h0
    rw [show Tryd.prog.cellsOf 9 = 1 by kernel_rfl] at h1 h2 h3
    simp only [List.drop_zero, List.drop_succ_cons, List.take_succ_cons, List.take_zero] at h0 h1 h2 h3
    obtain ⟨k, e0, hx0, _⟩ := DataW.trod_int Tryd.underlying3 h0
    obtain ⟨s, e1, hx1, _⟩ := DataW.trod_string Tryd.underlying9 h1
    obtain ⟨la, e2, hx2, _⟩ := DataW.trod_string Tryd.underlying9 h2
    obtain ⟨ty, e3, hx3, _⟩ := DataW.trod_string Tryd.underlying9 h3
    simp only [List.cons.injEq, and_true] at e0 e1 e2 e3
    subst e0; subst e1; subst e2; subst e3
    subst hx0; subst hx1; subst hx2; subst hx3
    have hr : reachBytes = 140737488351232 := by decide
    rw [hr] at hw
    have hw2 : ∀ n ∈ ([s.data.toList.length, la.data.toList.length, ty.data.toList.length] : List Nat), n ≤ 140737488351232 := by
      intro n hn
      refine hw n ?_
      simp only [DataW.weights, Tryd.underlying40]
      simpa [DataW.weightsEach, DataW.weights] using hn
    exact ⟨⟨k, s.data.toList, la.data.toList, ty.data.toList⟩, by simp, hw2 _ (by simp), hw2 _ (by simp), hw2 _ (by simp)⟩
set_option maxRecDepth 100000 in
theorem open_triple {fuel : Nat} {cs : List Value} {x : DataW H × List MemPlace} (h : DataW.trod enc Tryd.prog w base spare held fuel 42 cs = some x) (hw : ∀ n ∈ x.1.weights Tryd.prog 42, n ≤ reachBytes) :
    ∃ t : T3, cs = triL t ∧ t.a.small' ∧ t.b.small' ∧ t.c.small' := by
  obtain ⟨xs, m, rfl, rfl, hl, hlen, hf⟩ := DataW.trod_array Tryd.underlying42 h
  rw [show Tryd.prog.cellsOf 42 = 12 by kernel_rfl] at hl
  match xs, hlen with
  | [y0, y1, y2], _ =>
    have f0 := hf 0 (by omega)
    have f1 := hf 1 (by omega)
    have f2 := hf 2 (by omega)
    rw [show Tryd.prog.cellsOf 40 = 4 by kernel_rfl] at f0 f1 f2
    have hm : ∀ d ∈ [y0.1, y1.1, y2.1], ∀ n ∈ d.weights Tryd.prog 40, n ≤ reachBytes := by
      intro d hd n hn
      refine hw n ?_
      simp only [DataW.weights, Tryd.underlying42]
      exact mem_weightsAll (by simpa using hd) hn
    obtain ⟨ta, ea, sa⟩ := open_term f0 (hm _ (by simp))
    obtain ⟨tb, eb, sb⟩ := open_term f1 (hm _ (by simp))
    obtain ⟨tc, ec, sc⟩ := open_term f2 (hm _ (by simp))
    match cs, hl with
    | [c0, c1, c2, c3, c4, c5, c6, c7, c8, c9, c10, c11], _ =>
      simp at ea eb ec
      obtain ⟨rfl, rfl, rfl, rfl⟩ := ea
      obtain ⟨rfl, rfl, rfl, rfl⟩ := eb
      obtain ⟨rfl, rfl, rfl, rfl⟩ := ec
      exact ⟨⟨ta, tb, tc⟩, rfl, sa, sb, sc⟩
set_option maxRecDepth 100000 in
theorem open_tris {fuel : Nat} {v : Value} {d : DataW H} {p : List MemPlace} (h : DataW.trod enc Tryd.prog w base spare held fuel 34 [v] = some (d, p)) (hw : ∀ n ∈ d.weights Tryd.prog 34, n ≤ reachBytes) :
    ∃ (A : Option Addr) (c : Nat) (l : List T3), v = .slice A l.length c ∧ TriRow w (.slice A l.length c) l ∧ (∀ t ∈ l, t.a.small' ∧ t.b.small' ∧ t.c.small') ∧ l.length ≤ 140737488351232 := by
  rcases Go.Deep.open_slice Tryd.underlying34 h with ⟨hcs, hx⟩ | ⟨a, len, cap, m, n, D, Pl, hcs, hb, hl, hm, hmm, hx, hi⟩
  · simp only [List.cons.injEq, and_true] at hcs
    subst hcs
    exact ⟨none, 0, [], rfl, ⟨none, 0, rfl, fun k hk => absurd hk (Nat.not_lt_zero k)⟩, (fun t ht => by cases ht), by simp⟩
  · simp only [List.cons.injEq, and_true] at hcs
    subst hcs
    simp only [Prod.mk.injEq] at hx
    obtain ⟨rfl, rfl⟩ := hx
    have hlm : len ≤ m := by rw [hmm]; split <;> omega
    have hwe : ∀ i, i < len → ∀ n ∈ (D i).weights Tryd.prog 42, n ≤ reachBytes := by
      intro i hi n hn
      refine hw n ?_
      simp only [DataW.weights, Tryd.underlying34]
      rw [List.mem_cons, List.mem_append]
      exact Or.inr (Or.inl (mem_weightsAll (d := D i) (by simp; exact ⟨i, hi, rfl⟩) hn))
    have hlen : len ≤ 140737488351232 := by
      have hr : reachBytes = 140737488351232 := by decide
      have h1 := hw ((((List.range len).map D).length + ((List.range (m - len)).map fun j => D (len + j)).length) * Tryd.prog.bytesOf 42) (by
        simp only [DataW.weights, Tryd.underlying34]
        exact List.mem_cons_self)
      rw [show Tryd.prog.bytesOf 42 = 168 by kernel_rfl, hr] at h1
      simp at h1
      omega
    have hc12 : Tryd.prog.cellsOf 42 = 12 := by kernel_rfl
    have hel : ∀ i, i < len → ∃ t : T3, (∀ j u, (triL t)[j]? = some u → w.cell? ((a.add (i * 12)).add j) = some u) ∧ t.a.small' ∧ t.b.small' ∧ t.c.small' := by
      intro i hil
      obtain ⟨cs', hc, ht⟩ := hi i (by omega)
      obtain ⟨t, rfl, s1, s2, s3⟩ := open_triple ht (hwe i hil)
      refine ⟨t, fun j u hu => ?_, s1, s2, s3⟩
      rw [hc12] at hc
      obtain ⟨_, hcl, hat⟩ := World.cells?_some hc
      have hj : j < 12 := by
        rcases Nat.lt_or_ge j 12 with h1 | h1
        · exact h1
        · rw [List.getElem?_eq_none (by show 12 ≤ j; exact h1)] at hu; cases hu
      rw [hat j hj]; exact hu
    obtain ⟨F, hF⟩ := Classical.axiomOfChoice (r := fun (i : Fin len) (t : T3) => (∀ j u, (triL t)[j]? = some u → w.cell? ((a.add (i.val * 12)).add j) = some u) ∧ t.a.small' ∧ t.b.small' ∧ t.c.small') (fun i => hel i.val i.isLt)
    refine ⟨some a, cap, List.ofFn F, by simp, ⟨some a, cap, rfl, fun k hk => ?_⟩, ?_, by simpa using hlen⟩
    · have hk2 : k < len := by simpa using hk
      have h1 := (hF ⟨k, hk2⟩).1
      have e : (List.ofFn F)[k] = F ⟨k, hk2⟩ := by simp
      rw [e]
      have ad : ∀ x : Addr, x.add 0 = x := fun x => by simp [Addr.add]
      refine ⟨a, rfl, ?_, fun j u hu hj => ?_⟩
      · have := h1 0 _ rfl
        rw [ad] at this
        exact this
      · have := h1 j u hu
        have e2 : (a.add (k * 12)).add j = ⟨(a.add (k * 12)).block, (a.add (k * 12)).off + j, none⟩ := by
          simp [Addr.add, show j ≠ 0 by omega]
        rw [e2] at this
        exact this
    · intro t ht
      rw [List.mem_ofFn] at ht
      obtain ⟨i, rfl⟩ := ht
      exact (hF i).2
end
end Go.Proofs.YtpgoemlnjocmhaaDoor.Nt
