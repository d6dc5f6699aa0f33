/- RightForest. -/
import Derived.Test.YtfpoaggkjhcdnaaDoorTopicMake
namespace Go.Proofs.YtfpoaggkjhcdnaaDoor
open Go.RowKit
set_option linter.unusedVariables false

set_option maxRecDepth 100000 in
set_option maxHeartbeats 1000000 in
theorem rightForest_any (S : Nat) (B : Int) (w : World) (hs : Strm S B w) (hB : B ≤ 999999900) :
    Calls Tryd.prog 30 #[.pointer (some ⟨S, 0, none⟩)] w (SomeForest S (B + 5) 6 w) := by
  have hS := hs.lt
  go_enter Tryd.func30, Tryd.ntmps30
  go_wp2_with fail
  refine (one_any S B _ 3 3 9 _ _ (hs.alloc _) (by omega) (Box.new _ _ _) (by omega) rfl (by omega) (by omega) (by simp; decide)).mono ?_
  rintro e w1 ⟨x, hx, rfl, h1, s1⟩
  have h1' := ((Stp.refl S w).alloc _).trans h1
  have hS1 := s1.lt
  clear h1
  go_wp2_with fail
  refine (one_any S (B + 1) _ 2 2 9 _ _ (s1.alloc _) (by omega) (Box.new _ _ _) (by omega) rfl (by omega) (by omega) (by simp; decide)).mono ?_
  rintro e w2 ⟨y, hy, rfl, h2, s2⟩
  have h2' := (h1'.alloc _).trans h2
  have hS2 := s2.lt
  clear h2 h1' s1
  go_wp2_with fail
  refine (one_any S (B + 1 + 1) _ 3 3 9 _ _ (s2.alloc _) (by omega) (Box.new _ _ _) (by omega) rfl (by omega) (by omega) (by simp; decide)).mono ?_
  rintro e w3 ⟨z, hz, rfl, h3, s3⟩
  have h3' := (h2'.alloc _).trans h3
  have hS3 := s3.lt
  clear h3 h2' s2
  go_wp2_with fail
  refine (flip_any S (B + 1 + 1 + 1) 3 _ (s3.alloc _) (by omega) (by omega) (by omega)).mono ?_
  rintro e w4 ⟨r, rfl, h4, s4⟩
  have hbox := (Box.new w3 _ _).stp h4 (by omega)
  obtain ⟨L, hL⟩ : ∃ L : List Topic, L = [(⟨#[97, 114, 116]⟩, ⟨#[]⟩), (⟨#[98, 114, 101, 97, 100]⟩, ⟨#[]⟩), (⟨#[99, 97, 107, 101]⟩, ⟨#[98, 114, 101, 97, 100]⟩), (⟨#[100, 97, 114, 107]⟩, x), (⟨#[114, 111, 108, 108, 115]⟩, y), (⟨#[114, 121, 101]⟩, z)] := ⟨_, rfl⟩
  have hsa : SA w4 (some ⟨w3.heap.size, 0, none⟩) L := hbox.sa L (by rw [hL]; rfl)
  have hLl : L.length = 6 := by rw [hL]; rfl
  have hLs : SmallT L := by rw [hL]; exact smallT_cons (by decide) (by decide) (smallT_cons (by decide) (by decide) (smallT_cons (by decide) (by decide) (smallT_cons (by decide) hx (smallT_cons (by decide) hy (smallT_cons (by decide) hz smallT_nil)))))
  have h4' := (h3'.alloc _).trans h4
  have hS4 := s4.lt
  clear hL hbox h4 h3' s3
  cases r
  · have HF := Lib.hid (forestFault_any L _ 6 w4 hsa (by omega) hLs)
    rw [hLl] at HF
    go_wp2_with fail
    refine HF.out.mono ?_
    rintro e w5 ⟨rfl, hb5⟩
    by_cases hf : forestFault L = 0
    · rw [hf]
      go_wp2_with fail
      go_ret
      exact ⟨some ⟨w3.heap.size, 0, none⟩, 6, L, by rw [hLl]; rfl, by omega, by omega, hLs, hsa.below hb5, .inr ⟨_, _, rfl, by omega⟩, h4'.trans (Stp.of_below hb5), (s4.below hb5).mono (by omega)⟩
    · have hq : (forestFault L != 0) = true := by simpa using hf
      generalize forestFault L = er at *
      go_wp2_with fail
      go_ret
      exact ⟨none, 0, [], rfl, by simp, by simp, smallT_nil, .inl rfl, .inl rfl, h4'.trans (Stp.of_below hb5), (s4.below hb5).mono (by omega)⟩
  · go_wp2_with fail
    refine (next_any S (B + 1 + 1 + 1 + 1) 3 _ s4 (by omega) (by omega) (by omega)).mono ?_
    rintro e w5 ⟨r, ⟨hr, hr2⟩, rfl, h5, s5⟩
    obtain ⟨i, rfl⟩ := Int.eq_ofNat_of_zero_le hr
    have hi : i < 3 := by omega
    have hsa5 : SA w5 (some ⟨w3.heap.size, 0, none⟩) (L.take i) := by
      have := hsa.stp h5 (fun x hx => by cases hx; simp; omega)
      rcases this with h | ⟨b, off, h, ha⟩
      · subst h; exact .inl (by simp)
      · exact .inr ⟨b, off, h, ha.take i⟩
    have hLl2 : (L.take i).length = i := by rw [List.length_take]; omega
    have HF := Lib.hid (forestFault_any (L.take i) _ 6 w5 hsa5 (by omega) (hLs.take i))
    rw [hLl2] at HF
    have h5' := h4'.trans h5
    have hS5 := s5.lt
    clear h5 h4' hr hsa
    go_wp2_with fail
    refine HF.out.mono ?_
    rintro e w6 ⟨rfl, hb5⟩
    by_cases hf : forestFault (L.take i) = 0
    · rw [hf]
      go_wp2_with fail
      go_ret
      exact ⟨some ⟨w3.heap.size, 0, none⟩, 6, L.take i, by rw [hLl2]; rfl, by omega, by omega, hLs.take i, hsa5.below hb5, .inr ⟨_, _, rfl, by omega⟩, h5'.trans (Stp.of_below hb5), (s5.below hb5).mono (by omega)⟩
    · have hq : (forestFault (L.take i) != 0) = true := by simpa using hf
      generalize forestFault (L.take i) = er at *
      go_wp2_with fail
      go_ret
      exact ⟨none, 0, [], rfl, by simp, by simp, smallT_nil, .inl rfl, .inl rfl, h5'.trans (Stp.of_below hb5), (s5.below hb5).mono (by omega)⟩
end Go.Proofs.YtfpoaggkjhcdnaaDoor
