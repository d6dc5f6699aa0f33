/- slices.Clone of arrivals and of reasons. -/
import Derived.Test.YtifflpilnpcmoaaGreatDoorStateP
import Derived.Shelf.SlicesE.Clone
import Derived.OwnWalk
namespace Go.Proofs.YtifflpilnpcmoaaGreatDoor
open Go.RowKit
set_option linter.unusedVariables false
set_option linter.unusedSimpArgs false

def cloneArrRen : Go.Shelf.Ren := ⟨fun | 41 => 57 | n => n, fun | 22 => 30 | 23 => 63 | 4 => 4 | n => n, fun | n => n⟩
theorem cloneArrLays : Go.Proofs.SlLaysE0.n41 Tryz.prog cloneArrRen := {
  mixed := by kernel_rfl
  f41 := ⟨Tryz.f57.name, by decide, Tryz.func57.trans (congrArg some (by kernel_rfl))⟩
  t4 := Tryz.underlying4
  a4 := Tryz.isAgg4
  z4 := Tryz.sizeOf4
  v4 := Tryz.zeroValue4
  t22 := Tryz.underlying30
  a22 := Tryz.isAgg30
  z22 := Tryz.sizeOf30
  v22 := Tryz.zeroValue30 }
theorem cloneArrInfo : (Tryz.prog.info? 63).map (fun i => (i.zero, i.size, i.bytes)) = some (some (.agg #[.string ⟨#[]⟩, .int .i64 0, .int .i64 0, .string ⟨#[]⟩, .string ⟨#[]⟩]), 5, 64) := by kernel_rfl
theorem cloneArr_any (l : List Arv) (a : Option Addr) (cap : Nat) (w : World) (hs : SA w a l) (hf : a = none ∨ ∃ b off, a = some ⟨b, off, none⟩) (hl : l.length ≤ 1000000) :
    Calls Tryz.prog 57 #[.slice a l.length cap] w (GivesOwn 63 l w) := by
  have hlen : (l.flatMap Cel.cells).length = l.length * 5 := by
    clear hs hl
    induction l with
    | nil => rfl
    | cons y r ih => rw [List.flatMap_cons, List.length_append, ih, Cel.len, List.length_cons]; show 5 + _ = _; omega
  have hone : ∀ u ∈ l.flatMap Cel.cells, u.oneCell' = true := fun u hu => by
    obtain ⟨y, _, hy⟩ := List.mem_flatMap.1 hu
    exact Cel.one y u hy
  rcases hf with rfl | ⟨b, off, rfl⟩
  · have hl0 : l = [] := by
      rcases hs with h | ⟨b, off, h, _⟩
      · exact h
      · cases h
    subst hl0
    refine (AnyE.slices_Clone_nil cloneArrLays 0 cap w).mono ?_
    rintro e w' ⟨rfl, rfl⟩
    exact ⟨_, rfl, Own.nil _ _ _, Below.refl _ _⟩
  · obtain ⟨i0, hi, hz0, hz1, hz2⟩ := info_parts cloneArrInfo
    refine (AnyE.slices_Clone cloneArrLays i0 (.agg #[.string ⟨#[]⟩, .int .i64 0, .int .i64 0, .string ⟨#[]⟩, .string ⟨#[]⟩]) 5 64 hi hz0 hz1 hz2 rfl (by omega) (fun w => Tryz.sizeOf63 w) b off l.length cap (l.flatMap Cel.cells) w hlen (by unfold maxLen; omega) (by omega) ?_ hone).mono ?_
    · intro j u hu
      have hj : j < l.length * 5 := by rw [← hlen]; exact (List.getElem?_eq_some_iff.1 hu).1
      rcases hs with rfl | ⟨b', off', he, h⟩
      · simp at hj
      · cases he
        have hi1 : j / 5 < l.length := by omega
        have h1 := h (j / 5) (j % 5) _ (List.getElem?_eq_getElem hi1) (by show _ < 5; omega)
        have h2 := flat_get l (j / 5) (j % 5) _ (List.getElem?_eq_getElem hi1) (by show _ < 5; omega)
        have e : j / 5 * 5 + j % 5 = j := by omega
        have e' : j / 5 * Cel.k Arv + j % 5 = j := e
        rw [e'] at h1 h2
        rw [h1, ← h2, hu]
    · rintro e w' ⟨v', rfl, hown, _, hb⟩
      exact ⟨v', rfl, hown, hb⟩
def cloneReaRen : Go.Shelf.Ren := ⟨fun | 41 => 53 | n => n, fun | 22 => 26 | 23 => 75 | 4 => 4 | n => n, fun | n => n⟩
theorem cloneReaLays : Go.Proofs.SlLaysE0.n41 Tryz.prog cloneReaRen := {
  mixed := by kernel_rfl
  f41 := ⟨Tryz.f53.name, by decide, Tryz.func53.trans (congrArg some (by kernel_rfl))⟩
  t4 := Tryz.underlying4
  a4 := Tryz.isAgg4
  z4 := Tryz.sizeOf4
  v4 := Tryz.zeroValue4
  t22 := Tryz.underlying26
  a22 := Tryz.isAgg26
  z22 := Tryz.sizeOf26
  v22 := Tryz.zeroValue26 }
theorem cloneReaInfo : (Tryz.prog.info? 75).map (fun i => (i.zero, i.size, i.bytes)) = some (some (.agg #[.string ⟨#[]⟩, .int .i64 0]), 2, 24) := by kernel_rfl
theorem cloneRea_any (l : List Skill) (a : Option Addr) (cap : Nat) (w : World) (hs : SA w a l) (hf : a = none ∨ ∃ b off, a = some ⟨b, off, none⟩) (hl : l.length ≤ 1000000) :
    Calls Tryz.prog 53 #[.slice a l.length cap] w (GivesOwn 75 l w) := by
  have hlen : (l.flatMap Cel.cells).length = l.length * 2 := by
    clear hs hl
    induction l with
    | nil => rfl
    | cons y r ih => rw [List.flatMap_cons, List.length_append, ih, Cel.len, List.length_cons]; show 2 + _ = _; omega
  have hone : ∀ u ∈ l.flatMap Cel.cells, u.oneCell' = true := fun u hu => by
    obtain ⟨y, _, hy⟩ := List.mem_flatMap.1 hu
    exact Cel.one y u hy
  rcases hf with rfl | ⟨b, off, rfl⟩
  · have hl0 : l = [] := by
      rcases hs with h | ⟨b, off, h, _⟩
      · exact h
      · cases h
    subst hl0
    refine (AnyE.slices_Clone_nil cloneReaLays 0 cap w).mono ?_
    rintro e w' ⟨rfl, rfl⟩
    exact ⟨_, rfl, Own.nil _ _ _, Below.refl _ _⟩
  · obtain ⟨i0, hi, hz0, hz1, hz2⟩ := info_parts cloneReaInfo
    refine (AnyE.slices_Clone cloneReaLays i0 (.agg #[.string ⟨#[]⟩, .int .i64 0]) 2 24 hi hz0 hz1 hz2 rfl (by omega) (fun w => Tryz.sizeOf75 w) b off l.length cap (l.flatMap Cel.cells) w hlen (by unfold maxLen; omega) (by omega) ?_ hone).mono ?_
    · intro j u hu
      have hj : j < l.length * 2 := by rw [← hlen]; exact (List.getElem?_eq_some_iff.1 hu).1
      rcases hs with rfl | ⟨b', off', he, h⟩
      · simp at hj
      · cases he
        have hi1 : j / 2 < l.length := by omega
        have h1 := h (j / 2) (j % 2) _ (List.getElem?_eq_getElem hi1) (by show _ < 2; omega)
        have h2 := flat_get l (j / 2) (j % 2) _ (List.getElem?_eq_getElem hi1) (by show _ < 2; omega)
        have e : j / 2 * 2 + j % 2 = j := by omega
        have e' : j / 2 * Cel.k Skill + j % 2 = j := e
        rw [e'] at h1 h2
        rw [h1, ← h2, hu]
    · rintro e w' ⟨v', rfl, hown, _, hb⟩
      exact ⟨v', rfl, hown, hb⟩
end Go.Proofs.YtifflpilnpcmoaaGreatDoor
