/- slices.Equal of marks and of valued keys that read alike; slices.Clone of marks. -/
import Derived.Test.YtgihommenknhoaaGreatDoorStrict
import Derived.Shelf.SlicesE.Clone
namespace Go.Proofs.YtgihommenknhoaaGreatDoor
open Go.RowKit
set_option linter.unusedVariables false
set_option linter.unusedSimpArgs false

theorem SA.valued {w : World} {a : Option Addr} {l : List Valued} (h : SA w a l) {i : Nat} (hi : i < l.length) :
    ∃ b off, a = some ⟨b, off, none⟩ ∧ w.cell? ⟨b, off + i * 3, none⟩ = some (.string l[i].1) ∧ w.cell? ⟨b, off + i * 3 + 1, none⟩ = some (.int .i64 l[i].2.1) ∧ w.cell? ⟨b, off + i * 3 + 2, none⟩ = some (.int .i64 l[i].2.2) := by
  obtain ⟨b, off, ha, hc⟩ := h.at hi
  exact ⟨b, off, ha, hc 0 (by decide), hc 1 (by decide), hc 2 (by decide)⟩

def cloneRen : Go.Shelf.Ren := ⟨fun | 41 => 60 | n => n, fun | 22 => 26 | 23 => 88 | 4 => 4 | n => n, fun | n => n⟩
theorem cloneLays : Go.Proofs.SlLaysE0.n41 Tryz.prog cloneRen := {
  mixed := by kernel_rfl
  f41 := ⟨Tryz.f60.name, by decide, Tryz.func60.trans (congrArg some (by kernel_rfl))⟩
  t4 := Tryz.underlying4
  a4 := Tryz.isAgg4
  z4 := Tryz.sizeOf4
  v4 := Tryz.zeroValue4
  t22 := Tryz.underlying26
  a22 := Tryz.isAgg26
  z22 := Tryz.sizeOf26
  v22 := Tryz.zeroValue26 }
theorem cloneMark_any (l : List Mark) (a : Option Addr) (cap : Nat) (w : World) (hs : SA w a l) (hf : a = none ∨ ∃ b off, a = some ⟨b, off, none⟩) (hl : l.length ≤ 1000000) :
    Calls Tryz.prog 60 #[.slice a l.length cap] w (GivesOwn 88 l w) := by
  have hlen : (l.flatMap Cel.cells).length = l.length * 3 := by
    clear hs hl
    induction l with
    | nil => rfl
    | cons y r ih => rw [List.flatMap_cons, List.length_append, ih, Cel.len, List.length_cons]; show 3 + _ = _; omega
  have hone : ∀ u ∈ l.flatMap Cel.cells, u.oneCell' = true := fun u hu => by
    obtain ⟨y, _, hy⟩ := List.mem_flatMap.1 hu
    exact Cel.one y u hy
  rcases hf with rfl | ⟨b, off, rfl⟩
  · have hl0 : l = [] := by
      rcases hs with h | ⟨b, off, h, _⟩
      · exact h
      · cases h
    subst hl0
    refine (AnyE.slices_Clone_nil cloneLays 0 cap w).mono ?_
    rintro e w' ⟨rfl, rfl⟩
    exact ⟨_, rfl, Own.nil _ _ _, Below.refl _ _⟩
  · obtain ⟨i0, hi, hz0, hz1, hz2⟩ := info_parts Tryz.infoMark
    refine (AnyE.slices_Clone cloneLays i0 (.agg #[.string ⟨#[]⟩, .string ⟨#[]⟩, .int .i64 0]) 3 40 hi hz0 hz1 hz2 rfl (by omega) (fun w => Tryz.sizeOf88 w) b off l.length cap (l.flatMap Cel.cells) w hlen (by unfold maxLen; omega) (by omega) ?_ hone).mono ?_
    · intro j u hu
      have hj : j < l.length * 3 := by rw [← hlen]; exact (List.getElem?_eq_some_iff.1 hu).1
      rcases hs with rfl | ⟨b', off', he, h⟩
      · simp at hj
      · cases he
        have hi1 : j / 3 < l.length := by omega
        have h1 := h (j / 3) (j % 3) _ (List.getElem?_eq_getElem hi1) (by show _ < 3; omega)
        have h2 := flat_get l (j / 3) (j % 3) _ (List.getElem?_eq_getElem hi1) (by show _ < 3; omega)
        have e : j / 3 * 3 + j % 3 = j := by omega
        have e' : j / 3 * Cel.k Mark + j % 3 = j := e
        rw [e'] at h1 h2
        rw [h1, ← h2, hu]
    · rintro e w' ⟨v', rfl, hown, _, hb⟩
      exact ⟨v', rfl, hown, hb⟩
end Go.Proofs.YtgihommenknhoaaGreatDoor
