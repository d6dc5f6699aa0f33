/- The library's sorts of strings, walked: sorted; the keys of a map. -/
import Derived.Test.YtcjcdbhobehlpaaGreatDoorSortP
import Derived.Test.YtcjcdbhobehlpaaGreatDoorIter
namespace Go.Proofs.YtcjcdbhobehlpaaGreatDoor
open Go.RowKit Go.Sort
set_option linter.unusedVariables false
set_option linter.unusedSimpArgs false

theorem sortS_any (base : Nat) (l : List ByteArray) (v : Value) (w : World) (h : Own base 9 w v l) (hlen : l.length ≤ 1000000000) :
  Calls Tryz.prog 53 #[v] w (fun e w' => e = .returned (.tuple #[]) ∧ Own base 9 w' v (sortS l) ∧ w.grownBy w' v.ownBlock) := by
 by_cases hl : l = []
 ·
  subst hl
  obtain ⟨a, cap, rfl, _⟩ := h.form
  refine (Tryz.slices_Sort_string_none a cap w).mono ?_
  rintro e w' ⟨rfl, rfl⟩
  refine ⟨rfl, ?_, ⟨rfl, rfl, rfl, Nat.le_refl _, fun _ _ _ => rfl⟩⟩
  rw [show sortS [] = [] from List.length_eq_zero_iff.1 (sortS_length [])]
  exact h
 ·
  obtain ⟨h1, h2⟩ := h
  rcases h2 with ⟨_, h2⟩ | ⟨g, cap, cur, rfl, r1, r2, r3, r4, r5, r6⟩
  ·
   exact absurd (List.length_eq_zero_iff.1 h2) hl
  ·
   have hH : Holds encStr w g 0 (l.map toL).toArray := holds_of_block r2 (by rw [enc_toL, List.length_map, ← r6, show Cel.k ByteArray = 1 from rfl, Nat.mul_one])
   have hc := Tryz.slices_Sort_string g 0 cap (l.map toL) w hH (Array.getElem?_eq_some_iff.1 r2).1 (by rw [List.length_map]; omega)
   rw [List.length_map] at hc
   refine hc.mono ?_
   rintro e w' ⟨rfl, n, os, rfl⟩
   refine ⟨rfl, ?_, grownBy_sorted _⟩
   have := ownsRow_sorted (w := w) (base := base) (n := n) (os := os) (ss := l.map toL) (ts := (l.map toL).mergeSort fun x y => decide (x ≤ y)) (by simp) r1 r2 (by rw [List.length_map]; exact r3) r4 r5
   rw [enc_ofL, List.length_map] at this
   unfold Own
   rw [sortS_length]
   exact this
theorem compactS_any (base : Nat) (l : List ByteArray) (v : Value) (w : World) (h : Own base 9 w v l) (hlen : l.length ≤ 1000000000) :
  Calls Tryz.prog 54 #[v] w (fun e w' => ∃ v', e = .returned v' ∧ Own base 9 w' v' ((Lib.compact (l.map toL)).map ofL) ∧ w.grownBy w' v.ownBlock) := by
 by_cases hl : l = []
 ·
  subst hl
  obtain ⟨a, cap, rfl, _⟩ := h.form
  refine (Tryz.slices_Compact_string_empty a cap w).mono ?_
  rintro e w' ⟨rfl, rfl⟩
  exact ⟨_, rfl, h, ⟨rfl, rfl, rfl, Nat.le_refl _, fun _ _ _ => rfl⟩⟩
 ·
  obtain ⟨h1, h2⟩ := h
  rcases h2 with ⟨_, h2⟩ | ⟨g, cap, cur, rfl, r1, r2, r3, r4, r5, r6⟩
  ·
   exact absurd (List.length_eq_zero_iff.1 h2) hl
  ·
   have hH : Holds encStr w g 0 (l.map toL).toArray := holds_of_block r2 (by rw [enc_toL, List.length_map, ← r6, show Cel.k ByteArray = 1 from rfl, Nat.mul_one])
   have hc := Tryz.slices_Compact_string g 0 cap (l.map toL) w hH (by rw [List.length_map]; omega) (by rw [List.length_map]; exact r3)
   rw [List.length_map] at hc
   refine hc.mono ?_
   rintro e w' ⟨rfl, q, rfl⟩
   have hle : (Lib.compact (l.map toL)).length ≤ l.length := by
    unfold Lib.compact Lib.compactUpTo
    rw [List.length_map]
    refine Nat.le_trans (List.length_filter_le _ _) ?_
    simp
   refine ⟨_, rfl, ?_, ?_⟩
   ·
    have h3 := ownsRow_sorted (w := w) (base := base) (n := q) (os := #[]) (ss := l.map toL) (ts := Lib.compact (l.map toL) ++ List.replicate (l.length - (Lib.compact (l.map toL)).length) []) (by rw [List.length_append, List.length_replicate, List.length_map]; omega) r1 r2 (by rw [List.length_map]; exact r3) r4 r5
    rw [grow_empty] at h3
    obtain ⟨_, h4⟩ := h3
    rcases h4 with ⟨h4, _⟩ | ⟨g', cap', cur', he, s1, s2, s3, s4, s5, s6⟩
    ·
     cases h4
    ·
     cases he
     unfold Own
     rw [List.length_map, ← enc_ofL]
     refine ⟨by rw [List.length_map]; exact (Nat.mul_one _).symm, .inr ⟨g, cap, cur', rfl, r1, s2, by omega, r4, s5, ?_⟩⟩
     rw [List.length_map, Nat.mul_one, List.map_append] at s6
     rw [show Cel.k ByteArray = 1 from rfl, Nat.mul_one]
     have s7 := congrArg (List.take (Lib.compact (l.map toL)).length) s6
     rw [List.take_take, Nat.min_eq_left hle, List.take_append_of_le_length (by rw [List.length_map]; exact Nat.le_refl _)] at s7
     exact s7.trans (List.take_of_length_le (by rw [List.length_map]; exact Nat.le_refl _))
   ·
    have := grownBy_sorted (w := w) (g := g) (n := q) (os := #[]) (Lib.compact (l.map toL) ++ List.replicate (l.length - (Lib.compact (l.map toL)).length) []).toArray
    rw [grow_empty] at this
    exact this
theorem toL_ofL_map (l : List (List UInt8)) : (l.map ofL).map toL = l := by
 rw [List.map_map]; exact List.map_id _
theorem below_grown {base : Nat} {w0 w w' : World} {row : Option Nat} (h : Below base w0 w) (hg : w.grownBy w' row) (hb : base ≤ w0.heap.size) (hr : ∀ j, row = some j → base ≤ j) : Below base w0 w' :=
 Below.grown h hg (Nat.le_trans hb h.size) hr
set_option maxHeartbeats 400000 in
theorem sorted_any (l : List ByteArray) (a : Option Addr) (cap : Nat) (w : World) (h : SA w a l) (hlen : l.length ≤ 1000000000) :
  Calls Tryz.prog 37 #[.slice a l.length cap] w (GivesOwn 9 (keysS l) w) := by
 go_enter Tryz.func37, Tryz.ntmps37
 go_wp2_with fail
 refine (clone_any l a cap w h hlen).mono ?_
 rintro e w1 ⟨v1, rfl, hown1, hb1⟩
 go_wp2_with fail
 refine (sortS_any _ l _ _ hown1 hlen).mono ?_
 rintro e w2 ⟨rfl, hown2, hg2⟩
 have hb2 := below_grown hb1 hg2 (Nat.le_refl _) (fun j hj => (hown1.lt j hj).1)
 go_wp2_with fail
 refine (compactS_any _ _ _ _ hown2 (by rw [sortS_length]; exact hlen)).mono ?_
 rintro e w3 ⟨v3, rfl, hown3, hg3⟩
 have hb3 := below_grown hb2 hg3 (Nat.le_refl _) (fun j hj => (hown1.lt j hj).1)
 go_wp2_with fail
 go_ret
 refine ⟨v3, rfl, ?_, hb3⟩
 unfold sortS at hown3
 rw [toL_ofL_map, compact_sort] at hown3
 exact hown3
/-- How a map with string keys is read: its elements are not looked at. -/
theorem MBox.owns {w : World} {b : Nat} {es : List (ByteArray × Value)} (h : MBox w b es) (hn : (es.map (·.1)).Nodup) (hs : ∀ x ∈ es, x.1.size ≤ 1000000) (hl : es.length ≤ 1000000000) :
  ∃ D : DataW Unit, w.ownsMap Tryz.prog 9 (fun _ => some (.lit (.bool true), [])) b es.length D ∧ Maps.size D = es.length ∧ (strKeys D).Perm ((es.map (·.1)).map toL) := by
 obtain ⟨ar, clock, h1, h2, h3, h4⟩ := h
 unfold Ent at h2
 have hlen : ar.size = es.length := by have := congrArg List.length h2; simpa using this
 have hkeys : ar.toList.map (·.key) = es.map (fun p => Value.string p.1) := by
  have := congrArg (List.map Prod.fst) h2
  simpa [List.map_map, Function.comp_def] using this
 have hrd : ∀ x ∈ ar.toList, ∃ s : ByteArray, s ∈ es.map (·.1) ∧ x.key = .string s ∧ WideElems.rd (H := Unit) Tryz.prog 9 (fun _ => some (.lit (.bool true), [])) x = some (.string (toL s), .lit (.bool true)) := by
  intro x hx
  have hk : x.key ∈ es.map (fun p => Value.string p.1) := by rw [← hkeys]; exact List.mem_map_of_mem hx
  obtain ⟨p, hp, hpk⟩ := List.mem_map.1 hk
  refine ⟨p.1, List.mem_map_of_mem hp, hpk.symm, ?_⟩
  unfold WideElems.rd
  rw [← hpk, WideMaps.keyOf_string_mk Tryz.underlying9 (by have := hs p hp; unfold maxLen; omega)]
  rfl
 have hF : WideElems.Fit (H := Unit) Tryz.prog 9 (fun _ => some (.lit (.bool true), [])) ar clock := by
  refine ⟨by unfold maxLen; omega, ⟨h3, h4, ?_⟩, fun x hx => ?_⟩
  ·
   rw [hkeys]
   have : (es.map (fun p => Value.string p.1)) = (es.map (·.1)).map Value.string := by rw [List.map_map]; rfl
   rw [this]
   refine List.pairwise_map.2 (hn.imp fun {a b} h e => h ?_)
   cases e; rfl
  ·
   obtain ⟨s, _, _, h⟩ := hrd x hx; exact ⟨_, h⟩
 refine ⟨_, ⟨ar, clock, h1, hF, by omega, rfl⟩, ?_, ?_⟩
 ·
  show (List.foldr DataW.insert [] _).length = _
  rw [length_sorted, List.length_map, Array.length_toList, hlen]
 ·
  show (List.map (fun p => strOf p.1) (List.foldr DataW.insert [] _)).Perm _
  refine ((WideShapes.sorted_perm _).map _).trans ?_
  rw [List.map_map]
  have e : ar.toList.map ((fun p : Lit × DataW Unit => strOf p.1) ∘ WideElems.rg Tryz.prog 9 (fun _ => some (.lit (.bool true), []))) = (es.map (·.1)).map toL := by
   have h5 : ar.toList.map ((fun p : Lit × DataW Unit => strOf p.1) ∘ WideElems.rg Tryz.prog 9 (fun _ => some (.lit (.bool true), []))) = (ar.toList.map (·.key)).map (fun k => match k with | .string s => toL s | _ => []) := by
    rw [List.map_map]
    apply List.map_congr_left
    intro x hx
    obtain ⟨s, _, hk, hr⟩ := hrd x hx
    simp only [Function.comp, WideElems.rg, hr, hk]
    rfl
   rw [h5, hkeys, List.map_map, List.map_map]
   rfl
  rw [e]
end Go.Proofs.YtcjcdbhobehlpaaGreatDoor
