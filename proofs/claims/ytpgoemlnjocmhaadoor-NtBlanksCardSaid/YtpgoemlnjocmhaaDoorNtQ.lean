/-
  A part of the proof of NtBlanks (whatever the input, the law returns true and the input reads as it did): nt.Parse reads a document of good rows. Conditions stand at each theorem.
-/
import Derived.Test.YtpgoemlnjocmhaaDoorNtP
import Derived.Test.YtpgoemlnjocmhaaDoorNtO
namespace Go.Proofs.YtpgoemlnjocmhaaDoor.Nt
open Go.RowKit Go.Proofs.YtpgoemlnjocmhaaDoor.Lex
open Go.Proofs.YtpgoemlnjocmhaaDoorW.PrintWords hiding blk_lt blk_cell blk_frozen
set_option linter.unusedVariables false
set_option linter.unusedSimpArgs false

abbrev Rw := Bs × Option T3
def docL (R : List Rw) : Bs := R.flatMap (fun r => r.1 ++ [10])
def mkB (l : Bs) : ByteArray := ⟨l.toArray⟩
def trimR (r : Bs) : Bs := Lib.trimSuffix r [13]
def RowGood (r : Rw) : Prop := (∀ c ∈ r.1, c ≠ 10) ∧ r.1.length ≤ 1000 ∧ RowIs (mkB (trimR r.1)) r.2
theorem splitL_doc : ∀ (R : List Rw), (∀ r ∈ R, ∀ c ∈ r.1, c ≠ 10) → splitL (docL R) = R.map Prod.fst ++ [([] : Bs)]
  | [], _ => rfl
  | r :: R, h => by
    have e : docL (r :: R) = r.1 ++ 10 :: docL R := by simp [docL]
    rw [e, splitL_row _ _ (h r (by simp)), splitL_doc R (fun x hx => h x (by simp [hx]))]
    rfl
theorem row_none_nil : RowIs (mkB []) none := ⟨by decide, [], [], rfl, (fun c h => by cases h), Or.inl rfl⟩
theorem split_doc (R : List Rw) (h : ∀ r ∈ R, ∀ c ∈ r.1, c ≠ 10) : Lib.splitB ⟨#[10]⟩ 0 (Lib.countB (mkB (docL R)) ⟨#[10]⟩) (mkB (docL R)) = (R.map Prod.fst ++ [([] : Bs)]).map mkB := by
  rw [split_eq _ (mkB (docL R)) rfl]
  have e : (mkB (docL R)).data.toList = docL R := by simp [mkB]
  rw [e, splitL_doc R h]
  rfl
def DocPost (l : List T3) (w : World) (e : Ending) (w' : World) : Prop :=
  ∃ v, e = .returned (.tuple #[v, .int .i64 0, .int .i64 0]) ∧ w'.ownsRow w.heap.size 42 12 v l.length (cells3 l) ∧ Below w.heap.size w w'
theorem doc_any (R : List Rw) (m : Int) (w : World) (hR : ∀ r ∈ R, RowGood r) (hs : (docL R).length ≤ 16000) (hm : w.cell? ⟨0, 0, none⟩ = some (.int .i64 m)) :
    Calls Tryd.prog 16 #[.string (mkB (docL R))] w (DocPost (R.filterMap Prod.snd) w) := by
  have hP := split_doc R (fun r hr => (hR r hr).1)
  have hn : Lib.countB (mkB (docL R)) ⟨#[10]⟩ + 1 = ((R.map Prod.fst ++ [([] : Bs)]).map mkB).length := by
    rw [← hP, Lib.splitB_all ⟨#[10]⟩ (by decide) 0 _ _ rfl]
  have hlen : ((R.map Prod.fst ++ [([] : Bs)]).map mkB).length = R.length + 1 := by simp
  have hRl : R.length ≤ (docL R).length := by
    clear hP hn hlen hs hR
    induction R with
    | nil => simp
    | cons r R ih => have e : docL (r :: R) = r.1 ++ 10 :: docL R := by simp [docL]
                     rw [e]; simp; omega
  have hget : ∀ i, i < R.length → ((R.map Prod.fst ++ [([] : Bs)]).map mkB).getD i ByteArray.empty = mkB ((R.getD i ([], none)).1) := fun i hi => by
    rw [List.getD_eq_getElem?_getD, List.getElem?_map, List.getElem?_append_left (by simpa using hi), List.getElem?_map, List.getD_eq_getElem?_getD, List.getElem?_eq_getElem hi]
    rfl
  have hlast : ((R.map Prod.fst ++ [([] : Bs)]).map mkB).getD R.length ByteArray.empty = mkB [] := by
    rw [List.getD_eq_getElem?_getD, List.getElem?_map, List.getElem?_append_right (by simp)]
    simp
  have hmem : ∀ i, i < R.length → R.getD i ([], none) ∈ R := fun i hi => by
    rw [List.getD_eq_getElem?_getD, List.getElem?_eq_getElem hi]; exact List.getElem_mem hi
  have h := parse_any (mkB (docL R)) m w (by rw [show (mkB (docL R)).size = (docL R).length from size_of _]; exact hs) hm _ hP hn (by rw [hlen]; omega) (R.map Prod.snd ++ [none]) (R.length + 1) (by rw [hlen]; omega) (fun i hi => by
    by_cases hi2 : i < R.length
    · have e1 : rowAt ((R.map Prod.fst ++ [([] : Bs)]).map mkB) i = mkB (trimR (R.getD i ([], none)).1) := by
        unfold rowAt
        rw [if_pos (by rw [hlen]; omega), hget i hi2]
        simp [mkB, trimR]
      have e2 : (R.map Prod.snd ++ [none]).getD i none = (R.getD i ([], none)).2 := by
        rw [List.getD_eq_getElem?_getD, List.getElem?_append_left (by simpa using hi2), List.getElem?_map, List.getD_eq_getElem?_getD, List.getElem?_eq_getElem hi2]
        rfl
      rw [e1, e2]
      exact (hR _ (hmem i hi2)).2.2
    · obtain rfl : i = R.length := by omega
      have e1 : rowAt ((R.map Prod.fst ++ [([] : Bs)]).map mkB) R.length = mkB [] := by
        unfold rowAt
        rw [if_neg (by rw [hlen]; omega), hlast]
      have e2 : (R.map Prod.snd ++ [none]).getD R.length none = none := by
        rw [List.getD_eq_getElem?_getD, List.getElem?_append_right (by simp)]
        simp
      rw [e1, e2]
      exact row_none_nil) (fun hlt => by rw [hlen] at hlt; omega) (fun i => by
    by_cases hi2 : i < R.length
    · rw [hget i hi2, show (mkB (R.getD i ([], none)).1).size = _ from size_of _]
      have := (hR _ (hmem i hi2)).2.1
      omega
    · by_cases hi3 : i = R.length
      · subst hi3; rw [hlast]; decide
      · rw [List.getD_eq_getElem?_getD, List.getElem?_eq_none (by rw [hlen]; omega)]; decide)
  have hacc : accT (R.map Prod.snd ++ [none]) (R.length + 1) = R.filterMap Prod.snd := by
    unfold accT
    rw [List.take_of_length_le (by simp), List.filterMap_append, List.filterMap_map]
    simp
  rw [hacc] at h
  refine h.mono ?_
  rintro e w' ⟨h1, h2, h3⟩
  obtain ⟨v, hv, ho⟩ := h1 (by rw [hlen])
  exact ⟨v, hv, ho, h3⟩
theorem what_any (m : Int) (w : World) (hm : w.cell? ⟨0, 0, none⟩ = some (.int .i64 m)) :
    Calls Tryd.prog 16 #[.string ⟨#[10, 119, 104, 97, 116]⟩] w fun e w' => e = .returned (.tuple #[.slice none 0 0, .int .i64 2, .int .i64 6]) ∧ Below w.heap.size w w' := by
  have hP : Lib.splitB ⟨#[10]⟩ 0 (Lib.countB (⟨#[10, 119, 104, 97, 116]⟩ : ByteArray) ⟨#[10]⟩) ⟨#[10, 119, 104, 97, 116]⟩ = [mkB [], mkB [119, 104, 97, 116]] := by
    rw [split_eq _ _ rfl]; decide
  have hn : Lib.countB (⟨#[10, 119, 104, 97, 116]⟩ : ByteArray) ⟨#[10]⟩ + 1 = [mkB [], mkB [119, 104, 97, 116]].length := by
    rw [← hP, Lib.splitB_all ⟨#[10]⟩ (by decide) 0 _ _ rfl]
  have h := parse_any ⟨#[10, 119, 104, 97, 116]⟩ m w (by decide) hm _ hP hn (by decide) [none] 1 (by decide) (fun i hi => by
    obtain rfl : i = 0 := by omega
    exact row_none_nil) (fun _ => ⟨by decide, 119, [104, 97, 116], rfl, by decide, by decide⟩) (fun i => by
    rcases i with _ | _ | i
    · decide
    · decide
    · show (ByteArray.empty).size ≤ 16000
      decide)
  refine h.mono ?_
  rintro e w' ⟨h1, h2, h3⟩
  exact ⟨h2 (by decide), h3⟩
end Go.Proofs.YtpgoemlnjocmhaaDoor.Nt
