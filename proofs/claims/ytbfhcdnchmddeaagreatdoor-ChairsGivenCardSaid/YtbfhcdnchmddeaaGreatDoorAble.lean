/- The rows of who can chair what, while they are made; the maker of chairs. -/
import Derived.Test.YtbfhcdnchmddeaaGreatDoorMtc
import Derived.Test.YtbfhcdnchmddeaaGreatDoorMakeGrid
namespace Go.Proofs.YtbfhcdnchmddeaaGreatDoor
open Go.RowKit
set_option linter.unusedVariables false
set_option linter.unusedSimpArgs false

theorem find_filter {α : Type} (p q : α → Bool) : ∀ l : List α, (l.filter p).find? q = l.find? (fun a => p a && q a)
 | [] => rfl
 | x :: r => by
  have ih := find_filter p q r
  rw [List.filter_cons, List.find?_cons]
  cases hp : p x
  ·
   rw [if_neg (by decide), Bool.false_and]; exact ih
  ·
   rw [if_pos rfl, List.find?_cons, Bool.true_and]
   cases q x
   ·
    exact ih
   ·
    rfl
/-- Two blocks of headers, the rows of both apart; the blocks of the match beside them. -/
structure Able (base M C T U D A nc ns : Nat) (hvC : Nat → Value) (rC : Nat → List Nat) (hvA : Nat → Value) (rA : Nat → List Nat) (w : World) : Prop where
 rc : Rws base 3 22 C nc hvC rC w
 ra : Rws base 3 22 A ns hvA rA w
 apt : ∀ i j, i < nc → j < ns → Apt (hvC i) (hvA j)
 box : Box w M 98 #[.slice (some ⟨C, 0, none⟩) nc nc, .slice (some ⟨T, 0, none⟩) ns ns, .slice (some ⟨U, 0, none⟩) nc nc, .slice (some ⟨D, 0, none⟩) ns ns]
 tak : Box w T 3 (Array.replicate ns (.int .i64 0))
 used : Box w U 4 (cellsF Value.bool (fun _ => false) nc)
 done : Box w D 4 (cellsF Value.bool (fun _ => false) ns)
 low : M < base ∧ T < base ∧ U < base ∧ D < base
 ne : C ≠ T ∧ C ≠ U ∧ C ≠ D ∧ C ≠ M ∧ A ≠ T ∧ A ≠ U ∧ A ≠ D ∧ A ≠ M ∧ A ≠ C
section
variable {base M C T U D A nc ns : Nat} {hvC : Nat → Value} {rC : Nat → List Nat} {hvA : Nat → Value} {rA : Nat → List Nat} {w w' : World}
theorem Able.below (h : Able base M C T U D A nc ns hvC rC hvA rA w) (k : Below w.heap.size w w') : Able base M C T U D A nc ns hvC rC hvA rA w' :=
 ⟨h.rc.below k, h.ra.below k, h.apt, h.box.below k, h.tak.below k, h.used.below k, h.done.below k, h.low, h.ne⟩
theorem Able.pushC (h : Able base M C T U D A nc ns hvC rC hvA rA w) {i y : Nat} (hi : i < nc) {v' : Value} (hown : Own base 3 w' v' (rC i ++ [y])) (hg : w.grownBy w' (hvC i).ownBlock) (hat : ∀ j, v'.ownBlock = some j → (hvC i).ownBlock = some j ∨ w.heap.size ≤ j) :
  Able base M C T U D A nc ns (upd hvC i v') (upd rC i (rC i ++ [y])) hvA rA (w'.setCell ⟨C, i, none⟩ v') := by
 have k := h.rc.pushed (v' := v') hi hg
 obtain ⟨l1, l2, l3, l4⟩ := h.low
 obtain ⟨n1, n2, n3, n4, n5, n6, n7, n8, n9⟩ := h.ne
 have far : ∀ j, j < base → j ≠ C → ¬ ((hvC i).ownBlock = some j ∨ j = C) := fun j h1 h2 e => by
  rcases e with e | e
  ·
   have := ((h.rc.own i hi).lt j e).1; omega
  ·
   exact h2 e
 refine ⟨h.rc.push hi hown hg hat, h.ra.kp k (far _ h.ra.low n9) (fun j hj x hx e => ?_), fun a b ha hb => ?_, h.box.kp k (far _ l1 (fun e => n4 e.symm)), h.tak.kp k (far _ l2 (fun e => n1 e.symm)), h.used.kp k (far _ l3 (fun e => n2 e.symm)), h.done.kp k (far _ l4 (fun e => n3 e.symm)), h.low, h.ne⟩
 ·
  rcases e with e | e
  ·
   exact h.apt i j hi hj x e hx
  ·
   have h1 := ((h.ra.own j hj).lt x hx).1
   have h2 := h.rc.low
   omega
 ·
  by_cases e : a = i
  ·
   subst e
   rw [upd_at]
   intro x hx hx2
   rcases hat x hx with h1 | h1
   ·
    exact h.apt a b ha hb x h1 hx2
   ·
    have := ((h.ra.own b hb).lt x hx2).2; omega
  ·
   rw [upd_ne _ _ e]; exact h.apt a b ha hb
theorem Able.pushA (h : Able base M C T U D A nc ns hvC rC hvA rA w) {i y : Nat} (hi : i < ns) {v' : Value} (hown : Own base 3 w' v' (rA i ++ [y])) (hg : w.grownBy w' (hvA i).ownBlock) (hat : ∀ j, v'.ownBlock = some j → (hvA i).ownBlock = some j ∨ w.heap.size ≤ j) :
  Able base M C T U D A nc ns hvC rC (upd hvA i v') (upd rA i (rA i ++ [y])) (w'.setCell ⟨A, i, none⟩ v') := by
 have k := h.ra.pushed (v' := v') hi hg
 obtain ⟨l1, l2, l3, l4⟩ := h.low
 obtain ⟨n1, n2, n3, n4, n5, n6, n7, n8, n9⟩ := h.ne
 have far : ∀ j, j < base → j ≠ A → ¬ ((hvA i).ownBlock = some j ∨ j = A) := fun j h1 h2 e => by
  rcases e with e | e
  ·
   have := ((h.ra.own i hi).lt j e).1; omega
  ·
   exact h2 e
 refine ⟨h.rc.kp k (far _ h.rc.low (fun e => n9 e.symm)) (fun j hj x hx e => ?_), h.ra.push hi hown hg hat, fun a b ha hb => ?_, h.box.kp k (far _ l1 (fun e => n8 e.symm)), h.tak.kp k (far _ l2 (fun e => n5 e.symm)), h.used.kp k (far _ l3 (fun e => n6 e.symm)), h.done.kp k (far _ l4 (fun e => n7 e.symm)), h.low, h.ne⟩
 ·
  rcases e with e | e
  ·
   exact h.apt j i hj hi x hx e
  ·
   have h1 := ((h.rc.own j hj).lt x hx).1
   have h2 := h.ra.low
   omega
 ·
  by_cases e : b = i
  ·
   subst e
   rw [upd_at]
   intro x hx hx2
   rcases hat x hx2 with h1 | h1
   ·
    exact h.apt a b ha hb x hx h1
   ·
    have := ((h.rc.own a ha).lt x hx).2; omega
  ·
   rw [upd_ne _ _ e]; exact h.apt a b ha hb
end
/-- What the rows hold when k sessions were gone through, and j chairs of the next one. -/
def EqC (can : Nat → Nat → Bool) (nc k j : Nat) (rC : Nat → List Nat) : Prop := ∀ c, c < nc → rC c = (List.range (if c < j then k + 1 else k)).filter (fun s => can s c)
def EqA (can : Nat → Nat → Bool) (nc ns k j : Nat) (rA : Nat → List Nat) : Prop := ∀ s, s < ns → rA s = if s < k then (List.range nc).filter (can s) else if s = k then (List.range j).filter (can s) else []
theorem filt_succ (p : Nat → Bool) (n : Nat) : (List.range (n + 1)).filter p = (List.range n).filter p ++ if p n = true then [n] else [] := by
 rw [List.range_succ, List.filter_append, List.filter_cons, List.filter_nil]
theorem EqC.skip {can : Nat → Nat → Bool} {nc k j : Nat} {rC : Nat → List Nat} (h : EqC can nc k j rC) (hc : can k j = false) : EqC can nc k (j + 1) rC := fun c hc2 => by
 rw [h c hc2]
 by_cases e : c = j
 ·
  subst e
  rw [if_neg (by omega), if_pos (by omega), filt_succ, hc, if_neg (by decide), List.append_nil]
 ·
  by_cases e2 : c < j
  ·
   rw [if_pos e2, if_pos (by omega)]
  ·
   rw [if_neg e2, if_neg (by omega)]
theorem EqC.put {can : Nat → Nat → Bool} {nc k j : Nat} {rC : Nat → List Nat} (h : EqC can nc k j rC) (hj : j < nc) (hc : can k j = true) : EqC can nc k (j + 1) (upd rC j (rC j ++ [k])) := fun c hc2 => by
 by_cases e : c = j
 ·
  subst e
  rw [upd_at, h c hc2, if_neg (by omega), if_pos (by omega), filt_succ, hc, if_pos rfl]
 ·
  rw [upd_ne _ _ e, h c hc2]
  by_cases e2 : c < j
  ·
   rw [if_pos e2, if_pos (by omega)]
  ·
   rw [if_neg e2, if_neg (by omega)]
theorem EqC.next {can : Nat → Nat → Bool} {nc k : Nat} {rC : Nat → List Nat} (h : EqC can nc k nc rC) : EqC can nc (k + 1) 0 rC := fun c hc => by
 rw [h c hc, if_pos hc, if_neg (by omega)]
theorem EqA.skip {can : Nat → Nat → Bool} {nc ns k j : Nat} {rA : Nat → List Nat} (h : EqA can nc ns k j rA) (hc : can k j = false) : EqA can nc ns k (j + 1) rA := fun s hs => by
 rw [h s hs]
 by_cases e : s = k
 ·
  subst e
  rw [if_neg (by omega), if_pos rfl, if_neg (by omega), if_pos rfl, filt_succ, hc, if_neg (by decide), List.append_nil]
 ·
  rw [if_neg e, if_neg e]
theorem EqA.put {can : Nat → Nat → Bool} {nc ns k j : Nat} {rA : Nat → List Nat} (h : EqA can nc ns k j rA) (hk : k < ns) (hc : can k j = true) : EqA can nc ns k (j + 1) (upd rA k (rA k ++ [j])) := fun s hs => by
 by_cases e : s = k
 ·
  subst e
  rw [upd_at, h s hs, if_neg (by omega), if_pos rfl, if_neg (by omega), if_pos rfl, filt_succ, hc, if_pos rfl]
 ·
  rw [upd_ne _ _ e, h s hs, if_neg e, if_neg e]
theorem EqA.next {can : Nat → Nat → Bool} {nc ns k : Nat} {rA : Nat → List Nat} (h : EqA can nc ns k nc rA) : EqA can nc ns (k + 1) 0 rA := fun s hs => by
 rw [h s hs]
 by_cases e1 : s < k
 ·
  rw [if_pos e1, if_pos (by omega)]
 ·
  by_cases e2 : s = k
  ·
   subst e2
   rw [if_neg (by omega), if_pos rfl, if_pos (by omega)]
  ·
   rw [if_neg e1, if_neg e2, if_neg (by omega)]
   split
   ·
    rfl
   ·
    rfl
/-- The match and the rows, while chairs are given. -/
structure Cho (base n0 M C T U D A nc ns : Nat) (hvC : Nat → Value) (rC : Nat → List Nat) (hvA : Nat → Value) (rA : Nat → List Nat) (used done : Nat → Bool) (w : World) : Prop where
 m : MatchAt base M C T U D nc ns hvC rC used done w
 tk : ∃ o, Box w T 3 (cellsF takV o ns)
 ra : Rws base 3 22 A ns hvA rA w
 farC : ∀ i, i < nc → ∀ x, (hvC i).ownBlock = some x → x < n0
 farA : ∀ i, i < ns → ∀ x, (hvA i).ownBlock = some x → x < n0
 ne : A ≠ T ∧ A ≠ U ∧ A ≠ D ∧ U ≠ M ∧ U ≠ C ∧ U ≠ D ∧ D ≠ M ∧ D ≠ C
 le : base ≤ n0
section
variable {base n0 M C T U D A nc ns : Nat} {hvC : Nat → Value} {rC : Nat → List Nat} {hvA : Nat → Value} {rA : Nat → List Nat} {used done : Nat → Bool} {w w' : World}
theorem Cho.kp {X : Nat → Prop} (h : Cho base n0 M C T U D A nc ns hvC rC hvA rA used done w) (k : Kp X w w') (hX : ∀ j, X j → n0 ≤ j) : Cho base n0 M C T U D A nc ns hvC rC hvA rA used done w' := by
 obtain ⟨l1, l2, l3, l4⟩ := h.m.low
 have l5 := h.m.can.low
 have l6 := h.ra.low
 have l7 := h.le
 have far : ∀ j, j < n0 → ¬ X j := fun j h1 h2 => by have := hX j h2; omega
 obtain ⟨o, ho⟩ := h.tk
 exact ⟨h.m.kp k ⟨far _ (by omega), far _ (by omega), far _ (by omega), far _ (by omega)⟩ (fun i hi j hj => far _ (h.farC i hi j hj)), ⟨o, ho.kp k (far _ (by omega))⟩, h.ra.kp k (far _ (by omega)) (fun i hi j hj => far _ (h.farA i hi j hj)), h.farC, h.farA, h.ne, h.le⟩
theorem Cho.most (h : Cho base n0 M C T U D A nc ns hvC rC hvA rA used done w) {o : Nat → Option Nat} (k : Kp (fun j => j = T) w w') (ho : Box w' T 3 (cellsF takV o ns)) : Cho base n0 M C T U D A nc ns hvC rC hvA rA used done w' := by
 obtain ⟨l1, l2, l3, l4⟩ := h.m.low
 obtain ⟨n1, n2, n3, n4⟩ := h.m.ne
 exact ⟨h.m.kp k ⟨fun e => n1 e.symm, fun e => n2 e.symm, fun e => n3 e.symm, fun e => n4 e.symm⟩ (fun i hi j hj e => by have := ((h.m.can.own i hi).lt j hj).1; omega), ⟨o, ho⟩, h.ra.kp k (fun e => h.ne.1 e) (fun i hi j hj e => by have := ((h.ra.own i hi).lt j hj).1; omega), h.farC, h.farA, h.ne, h.le⟩
theorem Cho.setU (h : Cho base n0 M C T U D A nc ns hvC rC hvA rA used done w) (c : Nat) (b : Bool) : Cho base n0 M C T U D A nc ns hvC rC hvA rA (upd used c b) done (w.setCell ⟨U, c, none⟩ (.bool b)) := by
 obtain ⟨l1, l2, l3, l4⟩ := h.m.low
 obtain ⟨n1, n2, n3, n4⟩ := h.m.ne
 obtain ⟨m1, m2, m3, m4, m5, m6, m7, m8⟩ := h.ne
 have k : Kp (fun j => j = U) w (w.setCell ⟨U, c, none⟩ (.bool b)) := (Kp.refl (fun j => j = U) w).setCell (p := ⟨U, c, none⟩) (.inl rfl) _
 obtain ⟨o, ho⟩ := h.tk
 exact ⟨⟨h.m.box.kp k (fun e => m4 e.symm), h.m.can.kp k (fun e => m5 e.symm) (fun i hi j hj e => by have := ((h.m.can.own i hi).lt j hj).1; omega), h.m.used.setF c b, h.m.done.kp k (fun e => m6 e.symm), h.m.rng, h.m.low, h.m.ne⟩, ⟨o, ho.kp k n3⟩, h.ra.kp k m2 (fun i hi j hj e => by have := ((h.ra.own i hi).lt j hj).1; omega), h.farC, h.farA, h.ne, h.le⟩
theorem Cho.setD (h : Cho base n0 M C T U D A nc ns hvC rC hvA rA used done w) (c : Nat) (b : Bool) : Cho base n0 M C T U D A nc ns hvC rC hvA rA used (upd done c b) (w.setCell ⟨D, c, none⟩ (.bool b)) := by
 obtain ⟨l1, l2, l3, l4⟩ := h.m.low
 obtain ⟨n1, n2, n3, n4⟩ := h.m.ne
 obtain ⟨m1, m2, m3, m4, m5, m6, m7, m8⟩ := h.ne
 have k : Kp (fun j => j = D) w (w.setCell ⟨D, c, none⟩ (.bool b)) := (Kp.refl (fun j => j = D) w).setCell (p := ⟨D, c, none⟩) (.inl rfl) _
 obtain ⟨o, ho⟩ := h.tk
 exact ⟨⟨h.m.box.kp k (fun e => m7 e.symm), h.m.can.kp k (fun e => m8 e.symm) (fun i hi j hj e => by have := ((h.m.can.own i hi).lt j hj).1; omega), h.m.used.kp k m6, h.m.done.setF c b, h.m.rng, h.m.low, h.m.ne⟩, ⟨o, ho.kp k n4⟩, h.ra.kp k m3 (fun i hi j hj e => by have := ((h.ra.own i hi).lt j hj).1; omega), h.farC, h.farA, h.ne, h.le⟩
theorem Cho.same (h : Cho base n0 M C T U D A nc ns hvC rC hvA rA used done w) {u d : Nat → Bool} (hu : ∀ c, c < nc → used c = u c) (hd : ∀ s, s < ns → done s = d s) : Cho base n0 M C T U D A nc ns hvC rC hvA rA u d w :=
 ⟨⟨h.m.box, h.m.can, by rw [← cellsF_congr Value.bool hu]; exact h.m.used, by rw [← cellsF_congr Value.bool hd]; exact h.m.done, h.m.rng, h.m.low, h.m.ne⟩, h.tk, h.ra, h.farC, h.farA, h.ne, h.le⟩
end
/-- The rows are made. -/
theorem Able.cho {base M C T U D A nc ns : Nat} {hvC : Nat → Value} {rC : Nat → List Nat} {hvA : Nat → Value} {rA : Nat → List Nat} {w : World} {can : Nat → Nat → Bool} (h : Able base M C T U D A nc ns hvC rC hvA rA w) (hq : EqC can nc ns 0 rC) (hb : base ≤ w.heap.size) (h2 : U ≠ D ∧ U ≠ M ∧ D ≠ M ∧ T ≠ M ∧ T ≠ U ∧ T ≠ D) :
  Cho base w.heap.size M C T U D A nc ns hvC rC hvA rA (fun _ => false) (fun _ => false) w := by
 obtain ⟨n1, n2, n3, n4, n5, n6, n7, n8, n9⟩ := h.ne
 obtain ⟨m1, m2, m3, m4, m5, m6⟩ := h2
 refine ⟨⟨h.box, h.rc, h.used, h.done, fun c hc s hs => ?_, h.low, ⟨m4, fun e => n1 e.symm, m5, m6⟩⟩, ⟨fun _ => some 0, ?_⟩, h.ra, fun i hi x hx => ((h.rc.own i hi).lt x hx).2, fun i hi x hx => ((h.ra.own i hi).lt x hx).2, ⟨n5, n6, n7, m2, fun e => n2 e.symm, m1, m3, fun e => n3 e.symm⟩, hb⟩
 ·
  rw [hq c hc, if_neg (by omega), List.mem_filter, List.mem_range] at hs
  exact hs.1
 ·
  rw [cellsF_rep takV (some 0) ns]
  exact h.tak
theorem infoChr : (Tryz.prog.info? 90).map (fun i => (i.zero, i.size, i.bytes)) = some (some (.agg #[.string ⟨#[]⟩, .slice none 0 0]), 2, 40) := by kernel_rfl
/-- One chair more. -/
theorem NL.chair {base : Nat} {w w0 w' : World} {v : Value} {l : List Wsh} {x : Wsh} {g n cap : Nat} (h : NL base 90 w v l) (hx : NIn base v w x) (k : Below w.heap.size w w0) (hg : w0.grownBy w' v.ownBlock) (hown : Own base 90 w' (.slice (some ⟨g, 0, none⟩) n cap) (l ++ [x])) (hat : v.ownBlock = some g ∨ g = w0.heap.size) : NL base 90 w' (.slice (some ⟨g, 0, none⟩) n cap) (l ++ [x]) := by
 have hx0 : NIn base v w0 x := hx.kp (X := fun _ => False) (Kp.of_below k) (fun _ _ h => h.elim)
 exact (h.below k).snoc hx0 hg hown hat
set_option maxRecDepth 100000 in
set_option maxHeartbeats 4000000 in
theorem chairsM_any (S : Nat) (B : Int) (w : World) (hs : Strm S B w) (hB : B ≤ 999900000) :
  Calls Tryz.prog 9 #[.pointer (some ⟨S, 0, none⟩)] w (fun e w' => ∃ v l, e = .returned v ∧ List.length l ≤ 6 ∧ (∀ x ∈ l, WshOk x) ∧ NL w.heap.size 90 w' v l ∧ Stp S w w' ∧ Strm S (B + 30) w') := by
 have hSl := hs.lt
 have hp0 := Box.new w 9 #[.string ⟨#[97, 110, 110]⟩, .string ⟨#[98, 111]⟩, .string ⟨#[109, 97, 120]⟩, .string ⟨#[109, 105, 97]⟩, .string ⟨#[109, 111, 101]⟩]
 have hst0 := (Stp.refl S w).alloc (.cells #[.string ⟨#[97, 110, 110]⟩, .string ⟨#[98, 111]⟩, .string ⟨#[109, 97, 120]⟩, .string ⟨#[109, 105, 97]⟩, .string ⟨#[109, 111, 101]⟩] 9)
 have hs0 := hs.alloc (.cells #[.string ⟨#[97, 110, 110]⟩, .string ⟨#[98, 111]⟩, .string ⟨#[109, 97, 120]⟩, .string ⟨#[109, 105, 97]⟩, .string ⟨#[109, 111, 101]⟩] 9)
 have hn0 : NL w.heap.size 90 (w.alloc (.cells #[.string ⟨#[97, 110, 110]⟩, .string ⟨#[98, 111]⟩, .string ⟨#[109, 97, 120]⟩, .string ⟨#[109, 105, 97]⟩, .string ⟨#[109, 111, 101]⟩] 9)) (.slice none 0 0) ([] : List Wsh) := NL.nil _ _ _
 clear hs
 go_enter Tryz.func9, Tryz.ntmps9
 go_wp2_with fail
 generalize w.alloc (.cells #[.string ⟨#[97, 110, 110]⟩, .string ⟨#[98, 111]⟩, .string ⟨#[109, 97, 120]⟩, .string ⟨#[109, 105, 97]⟩, .string ⟨#[109, 111, 101]⟩] 9) = W0 at *
 go_loopg [8, 3] 5 (fun gk iv vv wr => ∃ (q : Nat) (v : Value) (l : List Wsh), v = vv ∧ iv = .int .i64 q ∧ q ≤ 5 ∧ Hid (gk = 5 - q) ∧ l.length ≤ q ∧ Hid (∀ x ∈ l, WshOk x) ∧ NL w.heap.size 90 wr v l ∧ v.ownBlock ≠ some w.heap.size ∧ Box wr w.heap.size 9 #[.string ⟨#[97, 110, 110]⟩, .string ⟨#[98, 111]⟩, .string ⟨#[109, 97, 120]⟩, .string ⟨#[109, 105, 97]⟩, .string ⟨#[109, 111, 101]⟩] ∧ Stp S w wr ∧ Strm S (B + 4 * q) wr)
 case atStart => exact ⟨0, _, [], rfl, rfl, by omega, rfl, by simp, fun x hx => (by cases hx), hn0, (fun e => by cases e), hp0, hst0, hs0.mono (by omega)⟩
 case round =>
  clear hp0 hst0 hs0 hn0
  obtain ⟨q, v, l, rfl, rfl, hq, hgq, hll, hlo, hnl, hvp, hp, hst, hsm⟩ := hrel
  have hpl := hp.lt
  have hSr := hsm.lt
  by_cases hlt : q < 5
  ·
   obtain ⟨nm, hnm, hlit⟩ : ∃ nm : ByteArray, nm.size ≤ 1000 ∧ ([Value.string ⟨#[97, 110, 110]⟩, .string ⟨#[98, 111]⟩, .string ⟨#[109, 97, 120]⟩, .string ⟨#[109, 105, 97]⟩, .string ⟨#[109, 111, 101]⟩] : List Value)[q]'(by simpa using hlt) = .string nm := by
    obtain rfl | rfl | rfl | rfl | rfl : q = 0 ∨ q = 1 ∨ q = 2 ∨ q = 3 ∨ q = 4 := by omega
    ·
     exact ⟨_, by decide, rfl⟩
    ·
     exact ⟨_, by decide, rfl⟩
    ·
     exact ⟨_, by decide, rfl⟩
    ·
     exact ⟨_, by decide, rfl⟩
    ·
     exact ⟨_, by decide, rfl⟩
   have hcq : wr.cell? ⟨w.heap.size, q, none⟩ = some (.string nm) := by
    rw [hp.cell q]
    have h4 : ([Value.string ⟨#[97, 110, 110]⟩, .string ⟨#[98, 111]⟩, .string ⟨#[109, 97, 120]⟩, .string ⟨#[109, 105, 97]⟩, .string ⟨#[109, 111, 101]⟩] : List Value)[q]? = some (.string nm) := by rw [List.getElem?_eq_getElem (by simpa using hlt), hlit]
    simpa using h4
   have hq1 : (0 : Int) ≤ (q : Int) := by omega
   have hq2 : (q : Int) < 5 := by omega
   clear hlit
   go_wp2_with fail
   refine (flip_any S (B + 4 * q) 2 _ hsm (by omega) (by omega) (by omega)).mono ?_
   rintro e w1 ⟨fl, rfl, h1, s1⟩
   have hnl1 := hnl.stp h1 hSl
   have hp1 := hp.stp h1 (by omega)
   have hst1 := hst.trans h1
   have hz1 := h1.size
   clear hnl hp hst hsm h1 hcq
   cases fl
   ·
    go_wp2_with fail
    go_roundg (5 - (q + 1))
    case measure => have := hgq.out; omega
    case rel => exact ⟨q + 1, v, l, rfl, by go_num, by omega, rfl, by omega, hlo, hnl1, hvp, hp1, hst1, s1.mono (by omega)⟩
   ·
    have hx := Box.new w1 9 #[.string ⟨#[97, 114, 116]⟩, .string ⟨#[98, 114, 101, 97, 100]⟩, .string ⟨#[99, 97, 107, 101]⟩]
    have hb2 : Below w1.heap.size w1 (w1.alloc (.cells #[.string ⟨#[97, 114, 116]⟩, .string ⟨#[98, 114, 101, 97, 100]⟩, .string ⟨#[99, 97, 107, 101]⟩] 9)) := (Below.refl _ _).alloc (Nat.le_refl _) _
    have hnl2 := hnl1.below hb2
    have hp2 := hp1.below hb2
    have hst2 := hst1.trans (Stp.of_below hb2)
    have s2 := s1.below hb2
    have hxs := hx.sa ([⟨#[97, 114, 116]⟩, ⟨#[98, 114, 101, 97, 100]⟩, ⟨#[99, 97, 107, 101]⟩] : List ByteArray) rfl
    have hz2 := hb2.size
    have hSw1 := s1.lt
    clear hnl1 hp1 hst1 s1 hb2 hx
    have HSO := Lib.hid (some_any S (B + 4 * q + 1) 2 ([⟨#[97, 114, 116]⟩, ⟨#[98, 114, 101, 97, 100]⟩, ⟨#[99, 97, 107, 101]⟩] : List ByteArray) (some ⟨w1.heap.size, 0, none⟩) 3 (w1.alloc (.cells #[.string ⟨#[97, 114, 116]⟩, .string ⟨#[98, 114, 101, 97, 100]⟩, .string ⟨#[99, 97, 107, 101]⟩] 9)) s2 (by omega) (by omega) (by omega) hxs (fun x hx => by cases hx; show w1.heap.size ≠ S; omega) (by decide) (fun x hx => by
     simp only [List.mem_cons, List.not_mem_nil, or_false] at hx
     unfold SmallS
     rcases hx with rfl | rfl | rfl <;> decide))
    clear s2 hxs
    go_wp2_with fail
    refine HSO.out.mono ?_
    rintro e w2 ⟨v2, ts, rfl, hts, htk, hown2, h3, s3⟩
    have hnl3 := hnl2.stp h3 hSl
    have hp3 := hp2.stp h3 (by omega)
    have hst3 := hst2.trans h3
    have hz3 := h3.size
    obtain ⟨ta, tc, rfl, hsa, hbl, hcp⟩ := hown2.sa
    have hln : ([⟨#[97, 114, 116]⟩, ⟨#[98, 114, 101, 97, 100]⟩, ⟨#[99, 97, 107, 101]⟩] : List ByteArray).length = 3 := rfl
    rw [hln] at hts s3
    obtain ⟨wv, hwv⟩ : ∃ wv : Wsh, wv = ⟨nm, ts, ta, tc⟩ := ⟨_, rfl⟩
    have Hce : Hid (Cel.cells wv = [.string nm, .slice ta ts.length tc]) := by show _ = _; rw [hwv]; rfl
    have Hwk : Hid (WshOk wv) := by rw [hwv]; exact ⟨hnm, by show ts.length ≤ _; omega, htk, hcp⟩
    have hvl := hnl2.1.lt
    have hin : NIn w.heap.size v w2 wv := by
     refine ⟨by rw [hwv]; exact hsa, fun y hy => ?_⟩
     rw [hwv] at hy
     have hy2 : y ∈ ta.toList := hy
     have e : ta = some y := by simpa using hy2
     have h7 := hbl y e
     exact ⟨by omega, h7.2, fun e2 => by have := (hvl _ e2).2; omega⟩
    have hb4 : Below w2.heap.size w2 (w2.alloc (.cells #[.string nm, .slice ta ts.length tc] 90)) := (Below.refl _ _).alloc (Nat.le_refl _) _
    have hst4 := hst3.trans (Stp.of_below hb4)
    have s4 := s3.below hb4
    have hp4 := hp3.below hb4
    have hnl4 := hnl3.below hb4
    have hvl3 := hnl3.1.lt
    clear hwv hnl2 hp2 hst2 hst3 hp3 s3 h3 hown2 hsa hbl hcp hln HSO
    go_wp2_with (at_builtin; refine wpList_append_lie (α := Wsh) rfl _ _ 36 rfl 90 40 (.agg #[.string ⟨#[]⟩, .slice none 0 0]) Tryz.underlying36 infoChr rfl _ l rfl hnl4.1 wv _ rfl (by rw [Hce.out]; exact Box.new _ _ _) (by omega) (by omega) (by simp; omega) ?_; intro g9 cap9 w9 hown9 hg9 hat9)
    have hnl9 := hnl3.chair hin hb4 hg9 hown9 hat9
    have hp9 := hp4.grown hg9 (fun e => hvp e.symm)
    have hst9 := hst4.grown hg9 (fun b hb => .inr (by have := (hvl3 b hb).1; omega))
    have s9 := s4.grown hg9 (fun b hb => by have := (hvl3 b hb).1; omega)
    have hvp9 : (Value.slice (some ⟨g9, 0, none⟩) (l.length + 1) cap9).ownBlock ≠ some w.heap.size := fun e => by
     obtain rfl : g9 = w.heap.size := Option.some.inj e
     rcases hat9 with h | h
     ·
      exact hvp h
     ·
      have := hb4.size; simp at h; omega
    clear hnl3 hnl4 hp4 hst4 s4 hin hb4 hg9 hown9 hat9 Hce hvl hvl3
    go_wp2_with fail
    go_roundg (5 - (q + 1))
    case measure => have := hgq.out; omega
    case rel => exact ⟨q + 1, _, l ++ [wv], rfl, by go_num, by omega, rfl, by rw [List.length_append]; simp; omega, all_snoc hlo.out Hwk.out, hnl9, hvp9, hp9, hst9, s9.mono (by omega)⟩
  ·
   obtain rfl : q = 5 := by omega
   clear hgq hlt hp hpl hvp
   go_wp2_with fail
   refine (flip_any S (B + 20) 15 _ (hsm.mono (by omega)) (by omega) (by omega) (by omega)).mono ?_
   rintro e w1 ⟨fl, rfl, h1, s1⟩
   have hnl1 := hnl.stp h1 hSl
   have hst1 := hst.trans h1
   have hz1 := h1.size
   have hzw := hst.size
   clear hnl hst hsm h1
   cases fl
   ·
    go_wp2_with fail
    go_ret
    exact ⟨v, l, rfl, by omega, hlo.out, hnl1, hst1, s1.mono (by omega)⟩
   ·
    have hx := Box.new w1 9 #[.string ⟨#[]⟩, .string ⟨#[97, 110, 110]⟩, .string ⟨#[122, 101, 100]⟩]
    have hb2 : Below w1.heap.size w1 (w1.alloc (.cells #[.string ⟨#[]⟩, .string ⟨#[97, 110, 110]⟩, .string ⟨#[122, 101, 100]⟩] 9)) := (Below.refl _ _).alloc (Nat.le_refl _) _
    have hnl2 := hnl1.below hb2
    have hst2 := hst1.trans (Stp.of_below hb2)
    have s2 := s1.below hb2
    have hSw1 := s1.lt
    have hz2 := hb2.size
    have HON := Lib.hid (one_any S (B + 20 + 1) w1.heap.size 3 3 9 _ _ s2 (by omega) hx (by omega) rfl (by omega) (by omega) (by simp; decide))
    clear hnl1 hst1 s1 hb2 hx s2
    go_wp2_with fail
    refine HON.out.mono ?_
    rintro e w2 ⟨x, hx, rfl, h3, s3⟩
    have hnl3 := hnl2.stp h3 hSl
    have hst3 := hst2.trans h3
    have hz3 := h3.size
    clear hnl2 hst2 h3 HON
    have hA := ((Box.new w2 9 #[.string ⟨#[98]⟩, .string ⟨#[97]⟩]).alloc (.cells #[.string ⟨#[]⟩] 9)).alloc (.cells #[.slice (some ⟨w2.heap.size, 0, none⟩) 2 2, .slice (some ⟨w2.heap.size + 1, 0, none⟩) 1 1, .slice none 0 0] 66)
    have hBx := (Box.newAt (w2.alloc (.cells #[.string ⟨#[98]⟩, .string ⟨#[97]⟩] 9)) (w2.heap.size + 1) 9 #[.string ⟨#[]⟩] (by simp)).alloc (.cells #[.slice (some ⟨w2.heap.size, 0, none⟩) 2 2, .slice (some ⟨w2.heap.size + 1, 0, none⟩) 1 1, .slice none 0 0] 66)
    have hCx := Box.newAt ((w2.alloc (.cells #[.string ⟨#[98]⟩, .string ⟨#[97]⟩] 9)).alloc (.cells #[.string ⟨#[]⟩] 9)) (w2.heap.size + 1 + 1) 66 #[.slice (some ⟨w2.heap.size, 0, none⟩) 2 2, .slice (some ⟨w2.heap.size + 1, 0, none⟩) 1 1, .slice none 0 0] (by simp)
    have hb3 : Below w2.heap.size w2 (((w2.alloc (.cells #[.string ⟨#[98]⟩, .string ⟨#[97]⟩] 9)).alloc (.cells #[.string ⟨#[]⟩] 9)).alloc (.cells #[.slice (some ⟨w2.heap.size, 0, none⟩) 2 2, .slice (some ⟨w2.heap.size + 1, 0, none⟩) 1 1, .slice none 0 0] 66)) := by (repeat' (first | exact Below.refl _ _ | assumption | refine Below.setCell ?_ ?_ _ | refine below_drewN ?_ _ | refine Below.drew ?_ | refine Below.alloc ?_ ?_ _ | (with_reducible refine Below.trans ?_ (Below.mono hb ?_)) | (with_reducible refine Below.trans ?_ (Below.mono hb0 ?_)) | (with_reducible refine Below.trans ?_ (Below.mono hb1 ?_)) | (with_reducible refine Below.trans ?_ (Below.mono hb2 ?_)) | (with_reducible refine Below.trans ?_ (Below.mono hb3 ?_)) | (with_reducible refine Below.trans ?_ (Below.mono hb4 ?_)) | (with_reducible refine Below.trans ?_ (Below.mono hb5 ?_)) | (with_reducible refine Below.trans ?_ (Below.mono hb6 ?_)) | (with_reducible refine Below.trans ?_ (Below.mono hb7 ?_)) | (with_reducible refine Below.trans ?_ (Below.mono hb8 ?_)) | (with_reducible refine Below.trans ?_ (Below.mono hb9 ?_)) | (with_reducible refine Below.trans ?_ (Below.mono hb10 ?_)) | (with_reducible refine Below.trans ?_ (Below.mono hb11 ?_)) | (with_reducible refine Below.trans ?_ (Below.mono hb12 ?_)) | (with_reducible refine Below.trans ?_ (Below.mono hb13 ?_)) | (with_reducible refine Below.trans ?_ (Below.mono hb14 ?_)) | (with_reducible refine Below.trans ?_ (Below.mono hb15 ?_)) | omega | (simp; done) | (simp; omega)))
    have hnl4 := hnl3.below hb3
    have hst4 := hst3.trans (Stp.of_below hb3)
    have s4 := s3.below hb3
    have hSw2 := s3.lt
    have hvl := hnl3.1.lt
    have hz4 : (((w2.alloc (.cells #[.string ⟨#[98]⟩, .string ⟨#[97]⟩] 9)).alloc (.cells #[.string ⟨#[]⟩] 9)).alloc (.cells #[.slice (some ⟨w2.heap.size, 0, none⟩) 2 2, .slice (some ⟨w2.heap.size + 1, 0, none⟩) 1 1, .slice none 0 0] 66)).heap.size = w2.heap.size + 3 := by simp
    clear hnl3 hst3 s3 hb3
    go_wp2_with fail
    generalize (((w2.alloc (.cells #[.string ⟨#[98]⟩, .string ⟨#[97]⟩] 9)).alloc (.cells #[.string ⟨#[]⟩] 9)).alloc (.cells #[.slice (some ⟨w2.heap.size, 0, none⟩) 2 2, .slice (some ⟨w2.heap.size + 1, 0, none⟩) 1 1, .slice none 0 0] 66)) = W3 at *
    refine (next_any S (B + 20 + 1 + 1) 3 _ s4 (by omega) (by omega) (by omega)).mono ?_
    rintro e w4 ⟨r, ⟨hr1, hr2⟩, rfl, h5, s5⟩
    obtain ⟨ri, rfl⟩ := Int.eq_ofNat_of_zero_le hr1
    have hA5 := hA.stp h5 (by omega)
    have hB5 := hBx.stp h5 (by omega)
    have hC5 := hCx.stp h5 (by omega)
    have hz5 := h5.size
    have hnl5 := hnl4.stp h5 hSl
    have hst5 := hst4.trans h5
    obtain ⟨a, ts, cap, hcv, hsa, hts, htk, htc, had⟩ : ∃ (a : Option Addr) (ts : List ByteArray) (cap : Nat), w4.cell? ⟨w2.heap.size + 1 + 1, ri, none⟩ = some (.slice a ts.length cap) ∧ SA w4 a ts ∧ ts.length ≤ 2 ∧ (∀ x ∈ ts, x.size ≤ 1000) ∧ ts.length ≤ cap ∧ ∀ y, a = some y → (y.block = w2.heap.size ∨ y.block = w2.heap.size + 1) := by
     obtain rfl | rfl | rfl : ri = 0 ∨ ri = 1 ∨ ri = 2 := by omega
     ·
      exact ⟨_, ([⟨#[98]⟩, ⟨#[97]⟩] : List ByteArray), 2, hC5.cell 0, hA5.sa ([⟨#[98]⟩, ⟨#[97]⟩] : List ByteArray) rfl, by decide, (fun x hx => by
       simp only [List.mem_cons, List.not_mem_nil, or_false] at hx
       rcases hx with rfl | rfl <;> decide), by decide, fun y hy => by cases hy; exact .inl rfl⟩
     ·
      exact ⟨_, ([⟨#[]⟩] : List ByteArray), 1, hC5.cell 1, hB5.sa ([⟨#[]⟩] : List ByteArray) rfl, by decide, (fun x hx => by
       simp only [List.mem_cons, List.not_mem_nil, or_false] at hx
       rcases hx with rfl
       decide), by decide, fun y hy => by cases hy; exact .inr rfl⟩
     ·
      exact ⟨none, ([] : List ByteArray), 0, hC5.cell 2, .inl rfl, by decide, (fun x hx => by cases hx), by decide, fun y hy => by cases hy⟩
    obtain ⟨wv, hwv⟩ : ∃ wv : Wsh, wv = ⟨x, ts, a, cap⟩ := ⟨_, rfl⟩
    have Hce : Hid (Cel.cells wv = [.string x, .slice a ts.length cap]) := by show _ = _; rw [hwv]; rfl
    have Hwk : Hid (WshOk wv) := by rw [hwv]; exact ⟨hx, by show ts.length ≤ _; omega, htk, htc⟩
    have hin : NIn w.heap.size v w4 wv := by
     refine ⟨by rw [hwv]; exact hsa, fun y hy => ?_⟩
     rw [hwv] at hy
     have hy2 : y ∈ a.toList := hy
     have e : a = some y := by simpa using hy2
     have h7 := had y e
     exact ⟨by omega, by omega, fun e2 => by have := (hvl _ e2).2; omega⟩
    have hb6 : Below w4.heap.size w4 (w4.alloc (.cells #[.string x, .slice a ts.length cap] 90)) := (Below.refl _ _).alloc (Nat.le_refl _) _
    have hst6 := hst5.trans (Stp.of_below hb6)
    have s6 := s5.below hb6
    have hnl6 := hnl5.below hb6
    have hvl5 := hnl5.1.lt
    have hri1 : (0 : Int) ≤ (ri : Int) := by omega
    have hri2 : (ri : Int) < 3 := by omega
    clear hwv hA hBx hCx hA5 hB5 hC5 hnl4 hst4 s4 hst5 s5 h5 hsa had htc htk hvl hr1 hr2
    go_wp2_with (at_builtin; refine wpList_append_lie (α := Wsh) rfl _ _ 36 rfl 90 40 (.agg #[.string ⟨#[]⟩, .slice none 0 0]) Tryz.underlying36 infoChr rfl _ l rfl hnl6.1 wv _ rfl (by rw [Hce.out]; exact Box.new _ _ _) (by omega) (by omega) (by simp; omega) ?_; intro g9 cap9 w9 hown9 hg9 hat9)
    have hnl9 := hnl5.chair hin hb6 hg9 hown9 hat9
    have hst9 := hst6.grown hg9 (fun b hb => .inr (by have := (hvl5 b hb).1; omega))
    have s9 := s6.grown hg9 (fun b hb => by have := (hvl5 b hb).1; omega)
    clear hnl5 hnl6 hst6 s6 hin hb6 hg9 hown9 hat9 Hce hvl5
    go_wp2_with fail
    go_ret
    exact ⟨_, l ++ [wv], rfl, by rw [List.length_append]; simp; omega, all_snoc hlo.out Hwk.out, hnl9, hst9, s9.mono (by omega)⟩
end Go.Proofs.YtbfhcdnchmddeaaGreatDoor
