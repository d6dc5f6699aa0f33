/- A box of arrivals: where an arrival goes; two ways to add one and to add many come to the same. Plain. -/
import Derived.Test.YtifflpilnpcmoaaGreatDoorStateP
import Derived.Test.YtifflpilnpcmoaaGreatDoorSortW
import Derived.Test.YtifflpilnpcmoaaGreatDoorArrs
import Derived.Test.YtifflpilnpcmoaaGreatDoorStates
import Derived.Test.YtifflpilnpcmoaaGreatDoorCloneA
import Derived.Test.YtifflpilnpcmoaaGreatDoorStatesR
/-! A box of arrivals: where an arrival goes; two ways to add one and to add many come to the same. Plain. -/
namespace Go.Proofs.YtifflpilnpcmoaaGreatDoor
open Go.RowKit
set_option linter.unusedVariables false
set_option linter.unusedSimpArgs false

noncomputable instance instDecMemArv (x : Arv) (l : List Arv) : Decidable (x ∈ l) := Classical.propDecidable _
/-- Arrivals in order, each once. -/
def RiseA (l : List Arv) : Prop := l.Pairwise (fun x y => cmpA x y < 0)
theorem riseA_irr (x y : Arv) (h : cmpA x y < 0) (k : cmpA y x < 0) : False := by
  have := totC_A.neg x y
  omega
theorem RiseA.same {l m : List Arv} (hl : RiseA l) (hm : RiseA m) (h : ∀ x, x ∈ l ↔ x ∈ m) : l = m := rise_same riseA_irr l m hl hm h
theorem RiseA.nodup {l : List Arv} (h : RiseA l) : l.Nodup := List.Pairwise.imp (fun {x y} hxy e => by subst e; exact riseA_irr _ _ hxy hxy) h
/-- A list without repeats, sorted, rises. -/
theorem sortA_rise {l : List Arv} (h : l.Nodup) : RiseA (sortC cmpA l) := by
  obtain ⟨-, h2, h3⟩ := sortC_both totC_A l
  have hn : (sortC cmpA l).Nodup := h2.nodup_iff.2 h
  refine (h3.and hn).imp ?_
  rintro x y ⟨h4, h5⟩
  have : cmpA x y ≠ 0 := fun e => h5 (cmpA_zero.1 e)
  omega
theorem sortA_mem {l : List Arv} (x : Arv) : x ∈ sortC cmpA l ↔ x ∈ l := (sortC_both totC_A l).2.1.mem_iff
/-- How many stand ahead of an arrival. -/
def posA (l : List Arv) (a : Arv) : Nat := l.countP (fun x => decide (cmpA x a < 0))
theorem posA_le (l : List Arv) (a : Arv) : posA l a ≤ l.length := List.countP_le_length
theorem cmpA_lt_trans {x y z : Arv} (h : cmpA x y < 0) (k : cmpA y z < 0) : cmpA x z < 0 := by
  have h1 := totC_A.trans x y z (by omega) (by omega)
  have h2 : cmpA x z ≠ 0 := fun e => by
    obtain rfl := cmpA_zero.1 e
    exact riseA_irr _ _ h k
  omega
theorem posA_ahead {l : List Arv} (h : RiseA l) (a : Arv) : (∀ x ∈ l.take (posA l a), cmpA x a < 0) ∧ (∀ x ∈ l.drop (posA l a), ¬ cmpA x a < 0) := by
  induction l with
  | nil => simp
  | cons y r ih =>
    unfold RiseA at h
    rw [List.pairwise_cons] at h
    by_cases hy : cmpA y a < 0
    · have e : posA (y :: r) a = posA r a + 1 := by unfold posA; rw [List.countP_cons, if_pos (decide_eq_true hy)]
      rw [e, List.take_succ_cons, List.drop_succ_cons]
      refine ⟨fun x hx => ?_, (ih h.2).2⟩
      rcases List.mem_cons.1 hx with rfl | hx
      · exact hy
      · exact (ih h.2).1 x hx
    · have hall : ∀ x ∈ y :: r, ¬ cmpA x a < 0 := fun x hx hxa => by
        rcases List.mem_cons.1 hx with rfl | hx
        · exact hy hxa
        · exact hy (cmpA_lt_trans (h.1 x hx) hxa)
      have e : posA (y :: r) a = 0 := by
        unfold posA
        rw [List.countP_eq_zero]
        exact fun x hx => by simpa using hall x hx
      rw [e]
      exact ⟨by simp, by simpa using hall⟩
/-- An arrival laid at its place. -/
def insA (l : List Arv) (a : Arv) : List Arv := l.take (posA l a) ++ a :: l.drop (posA l a)
theorem insA_mem {l : List Arv} {a x : Arv} : x ∈ insA l a ↔ x ∈ l ∨ x = a := by
  unfold insA
  rw [List.mem_append, List.mem_cons]
  constructor
  · rintro (h | h | h)
    · exact .inl (List.mem_of_mem_take h)
    · exact .inr h
    · exact .inl (List.mem_of_mem_drop h)
  · rintro (h | h)
    · rw [← List.take_append_drop (posA l a) l, List.mem_append] at h
      exact h.elim .inl (fun h => .inr (.inr h))
    · exact .inr (.inl h)
theorem insA_len (l : List Arv) (a : Arv) : (insA l a).length = l.length + 1 := by
  have := posA_le l a
  unfold insA
  simp
  omega
theorem insA_rise {l : List Arv} (h : RiseA l) {a : Arv} (ha : a ∉ l) : RiseA (insA l a) := by
  obtain ⟨h1, h2⟩ := posA_ahead h a
  have hl : RiseA (l.take (posA l a) ++ l.drop (posA l a)) := by rw [List.take_append_drop]; exact h
  unfold RiseA at hl
  rw [List.pairwise_append] at hl
  unfold insA RiseA
  rw [List.pairwise_append, List.pairwise_cons]
  have h3 : ∀ x ∈ l.drop (posA l a), cmpA a x < 0 := fun x hx => by
    have h4 := h2 x hx
    have h5 := totC_A.neg a x
    have h6 : cmpA x a ≠ 0 := fun e => ha (by rw [← cmpA_zero.1 e]; exact List.mem_of_mem_drop hx)
    omega
  refine ⟨hl.1, ⟨h3, hl.2.1⟩, fun x hx y hy => ?_⟩
  rcases List.mem_cons.1 hy with rfl | hy
  · exact h1 x hx
  · exact hl.2.2 x hx y hy
/-- Put of the program and of the reference. -/
theorem put_same {l : List Arv} (h : RiseA l) {a : Arv} (ha : a ∉ l) : sortC cmpA (l ++ [a]) = insA l a := by
  have hn : (l ++ [a]).Nodup := by
    rw [List.nodup_append]
    refine ⟨h.nodup, by simp, ?_⟩
    intro x hx y hy e
    rw [List.mem_singleton] at hy
    subst hy e
    exact ha hx
  refine (sortA_rise hn).same (insA_rise h ha) fun x => ?_
  rw [sortA_mem, insA_mem]
  simp
/-- The arrival is found at its place, or it is not there. -/
theorem found_iff {l : List Arv} (h : RiseA l) (a : Arv) : (∃ hp : posA l a < l.length, cmpA l[posA l a] a = 0) ↔ a ∈ l := by
  constructor
  · rintro ⟨hp, he⟩
    rw [← cmpA_zero.1 he]
    exact List.getElem_mem hp
  · intro ha
    obtain ⟨h1, h2⟩ := posA_ahead h a
    have h3 : a ∈ l.drop (posA l a) := by
      rw [← List.take_append_drop (posA l a) l, List.mem_append] at ha
      rcases ha with ha | ha
      · have := h1 a ha
        exact (riseA_irr _ _ this this).elim
      · exact ha
    have hp : posA l a < l.length := by
      have := List.length_pos_of_mem h3
      rw [List.length_drop] at this
      omega
    refine ⟨hp, ?_⟩
    have e : l.drop (posA l a) = l[posA l a] :: l.drop (posA l a + 1) := List.drop_eq_getElem_cons hp
    have hr : RiseA (l.drop (posA l a)) := List.Pairwise.sublist (List.drop_sublist _ _) h
    unfold RiseA at hr
    rw [e] at h3 hr
    rw [List.pairwise_cons] at hr
    rcases List.mem_cons.1 h3 with h4 | h4
    · rw [← h4]; exact totC_A.refl a
    · have := hr.1 a h4
      have := h2 l[posA l a] (by rw [e]; exact List.mem_cons_self ..)
      omega
/-- What a second list adds. -/
noncomputable def freshA (l m : List Arv) : List Arv := m.filter (fun x => decide (x ∉ l))
theorem freshA_mem {l m : List Arv} {x : Arv} : x ∈ freshA l m ↔ x ∈ m ∧ x ∉ l := by
  unfold freshA
  rw [List.mem_filter]
  simp
noncomputable def joinA (l m : List Arv) : List Arv := sortC cmpA (l ++ freshA l m)
theorem joinA_mem {l m : List Arv} {x : Arv} : x ∈ joinA l m ↔ x ∈ l ∨ x ∈ m := by
  unfold joinA
  rw [sortA_mem, List.mem_append, freshA_mem]
  by_cases h : x ∈ l <;> simp [h]
theorem joinA_rise {l m : List Arv} (hl : RiseA l) (hm : RiseA m) : RiseA (joinA l m) := by
  refine sortA_rise ?_
  rw [List.nodup_append]
  refine ⟨hl.nodup, hm.nodup.filter _, ?_⟩
  intro x hx y hy e
  subst e
  exact (freshA_mem.1 hy).2 hx
theorem joinA_len (l m : List Arv) : (joinA l m).length = l.length + (freshA l m).length := by
  unfold joinA
  rw [sortC_len totC_A, List.length_append]
theorem freshA_len (l m : List Arv) : (freshA l m).length ≤ m.length := List.length_filter_le _ _
/-- Join of the program and of the reference. -/
theorem join_same {l m : List Arv} (hl : RiseA l) (hm : RiseA m) : dedL (sortC cmpA (l ++ m)) = joinA l m := by
  refine RiseA.same (dedL_rise totC_A (fun x y h => cmpA_zero.1 h) (sortC_both totC_A _).2.2) (joinA_rise hl hm) fun x => ?_
  rw [dedL_mem, sortA_mem, List.mem_append, joinA_mem]
theorem boxOrder_same (x y : Arv) : firstOf [cmpS x.1 y.1, cmpO x y] = cmpA x y := by
  unfold cmpA cmpO
  rw [firstOf_cons, firstOf_cons (cmpS x.1 y.1), firstOf_cons]
  split
  · rfl
  · split
    · rfl
    · rename_i h
      rw [Classical.not_not.1 h]; rfl
end Go.Proofs.YtifflpilnpcmoaaGreatDoor

/-! A box of arrivals in memory, and what a call on it moves. -/
namespace Go.Proofs.YtifflpilnpcmoaaGreatDoor
open Go.RowKit
set_option linter.unusedVariables false
set_option linter.unusedSimpArgs false

def aF (x : Arv) : Int := arrivalFault x.1 x.2.1 x.2.2.1 x.2.2.2.1 x.2.2.2.2
/-- What putting an arrival says, and leaves. -/
noncomputable def putB (l : List Arv) (x : Arv) : Bool := decide (aF x = 0 ∧ x ∉ l)
noncomputable def putL (l : List Arv) (x : Arv) : List Arv := if aF x = 0 ∧ x ∉ l then insA l x else l
/-- A box (of the program or of the reference) at block b: its call and its list, which lies in a block of its own. -/
def BoxAt (T base b : Nat) (o a f : Int) (a3 : Option Addr) (s3 c3 : Nat) (v : Value) (l : List Arv) (w : World) : Prop :=
  Box w b T #[.int .i64 o, .int .i64 a, .int .i64 f, .slice a3 s3 c3, v] ∧ Own base 63 w v l ∧ b < base
/-- Only the box and its list may have turned; the new list lies where it lay, or in a new block. -/
def Moves (b : Nat) (v v' : Value) (w w' : World) : Prop :=
  Kp (fun j => j = b ∨ v.ownBlock = some j) w w' ∧ ∀ j, v'.ownBlock = some j → v.ownBlock = some j ∨ w.heap.size ≤ j
section
variable {T base b : Nat} {o a f : Int} {a3 : Option Addr} {s3 c3 : Nat} {v : Value} {l : List Arv} {w w' : World}
theorem BoxAt.kp {X : Nat → Prop} (h : BoxAt T base b o a f a3 s3 c3 v l w) (k : Kp X w w') (hb : ¬ X b) (hv : ∀ j, v.ownBlock = some j → ¬ X j) : BoxAt T base b o a f a3 s3 c3 v l w' :=
  ⟨h.1.kp k hb, h.2.1.kp k hv, h.2.2⟩
theorem BoxAt.below (h : BoxAt T base b o a f a3 s3 c3 v l w) (k : Below w.heap.size w w') : BoxAt T base b o a f a3 s3 c3 v l w' := ⟨h.1.below k, h.2.1.below k, h.2.2⟩
theorem Moves.of_below (h : Below w.heap.size w w') : Moves b v v w w' := ⟨Kp.of_below h, fun j hj => .inl hj⟩
theorem putL_mem {x y : Arv} (h : y ∈ putL l x) : y ∈ l ∨ (y = x ∧ aF x = 0) := by
  unfold putL at h
  split at h
  · rename_i hc
    exact (insA_mem.1 h).imp id (fun e => ⟨e, hc.1⟩)
  · exact .inl h
theorem putL_len (l : List Arv) (x : Arv) : (putL l x).length ≤ l.length + 1 := by
  unfold putL
  split
  · rw [insA_len]; omega
  · omega
theorem putL_rise (h : RiseA l) (x : Arv) : RiseA (putL l x) := by
  unfold putL
  split
  · rename_i hc; exact insA_rise h hc.2
  · exact h
theorem putL_bad {x : Arv} (h : aF x ≠ 0) : putL l x = l ∧ putB l x = false := by
  unfold putL putB
  exact ⟨if_neg (fun e => h e.1), decide_eq_false (fun e => h e.1)⟩
theorem putL_in {x : Arv} (h : x ∈ l) : putL l x = l ∧ putB l x = false := by
  unfold putL putB
  exact ⟨if_neg (fun e => e.2 h), decide_eq_false (fun e => e.2 h)⟩
theorem putL_new {x : Arv} (h0 : aF x = 0) (h : x ∉ l) : putL l x = insA l x ∧ putB l x = true := by
  unfold putL putB
  exact ⟨if_pos ⟨h0, h⟩, decide_eq_true ⟨h0, h⟩⟩
end
end Go.Proofs.YtifflpilnpcmoaaGreatDoor

/-! Boxes: NewBox, Arrivals and Entries, of the program and of the reference. -/
namespace Go.Proofs.YtifflpilnpcmoaaGreatDoor
open Go.RowKit
set_option linter.unusedVariables false
set_option linter.unusedSimpArgs false

theorem SA.rea {w : World} {a : Option Addr} {l : List Skill} (h : SA w a l) {i : Nat} (hi : i < l.length) :
    ∃ b off, a = some ⟨b, off, none⟩ ∧ w.cell? ⟨b, off + i * 2, none⟩ = some (.string l[i].1) ∧ w.cell? ⟨b, off + i * 2 + 1, none⟩ = some (.int .i64 l[i].2) := by
  obtain ⟨b, off, ha, hc⟩ := h.at hi
  exact ⟨b, off, ha, hc 0 (by decide), hc 1 (by decide)⟩
set_option maxRecDepth 100000 in
set_option maxHeartbeats 4000000 in
/-- Two slices that read alike are equal. -/
theorem equalRea_any (l : List Skill) (a a2 : Option Addr) (cap cap2 : Nat) (w : World) (h : SA w a l) (h2 : SA w a2 l) (hlen : l.length ≤ 1000000000) :
    Calls Tryz.prog 56 #[.slice a l.length cap, .slice a2 l.length cap2] w (Draws (.bool true) w) := by
  have hq0 : ((l.length : Int) != (l.length : Int)) = false := by simp
  go_enter Tryz.func56, Tryz.ntmps56
  go_wp2_with fail
  go_loopg [13] l.length (fun gk i wr => ∃ k : Nat, i = .int .i64 k ∧ k ≤ l.length ∧ Hid (gk = l.length - k) ∧ ∃ n, wr = w.drewN n)
  case atStart => exact ⟨0, rfl, by omega, rfl, 0, rfl⟩
  case round =>
    obtain ⟨k, rfl, hk, hgk, n, rfl⟩ := hrel
    by_cases hlt : k < l.length
    · obtain ⟨b, off, ha, c0, c1⟩ := h.rea hlt
      obtain ⟨b', off', ha', d0, d1⟩ := h2.rea hlt
      rw [ha, ha']
      generalize l[k] = x at *
      obtain ⟨x1, x2⟩ := x
      simp only at *
      have hk1 : (0 : Int) ≤ (k : Int) := by omega
      have hk2 : (k : Int) < (l.length : Int) := by omega
      go_wp2_with fail
      go_quiet (fail)
      go_wp2_with fail
      rw [← ha, ← ha']
      go_roundg (l.length - (k + 1))
      case measure => have := hgk.out; omega
      case rel => exact ⟨k + 1, by go_num, by omega, rfl, _, rfl⟩
    · go_wp2_with fail
      go_ret
      exact ⟨rfl, _, rfl⟩
set_option maxRecDepth 100000 in
set_option maxHeartbeats 4000000 in
/-- Two slices that read alike are equal. -/
theorem equalArv_any (l : List Arv) (a a2 : Option Addr) (cap cap2 : Nat) (w : World) (h : SA w a l) (h2 : SA w a2 l) (hlen : l.length ≤ 1000000000) :
    Calls Tryz.prog 34 #[.slice a l.length cap, .slice a2 l.length cap2] w (Draws (.bool true) w) := by
  have hq0 : ((l.length : Int) != (l.length : Int)) = false := by simp
  go_enter Tryz.func34, Tryz.ntmps34
  go_wp2_with fail
  go_loopg [13] l.length (fun gk i wr => ∃ k : Nat, i = .int .i64 k ∧ k ≤ l.length ∧ Hid (gk = l.length - k) ∧ ∃ n, wr = w.drewN n)
  case atStart => exact ⟨0, rfl, by omega, rfl, 0, rfl⟩
  case round =>
    obtain ⟨k, rfl, hk, hgk, n, rfl⟩ := hrel
    by_cases hlt : k < l.length
    · obtain ⟨b, off, ha, c0, c1, c2, c3, c4⟩ := h.arv hlt
      obtain ⟨b', off', ha', d0, d1, d2, d3, d4⟩ := h2.arv hlt
      rw [ha, ha']
      generalize l[k] = x at *
      obtain ⟨x1, x2, x3, x4, x5⟩ := x
      simp only at *
      have hk1 : (0 : Int) ≤ (k : Int) := by omega
      have hk2 : (k : Int) < (l.length : Int) := by omega
      go_wp2_with fail
      go_quiet (fail)
      go_wp2_with fail
      rw [← ha, ← ha']
      go_roundg (l.length - (k + 1))
      case measure => have := hgk.out; omega
      case rel => exact ⟨k + 1, by go_num, by omega, rfl, _, rfl⟩
    · go_wp2_with fail
      go_ret
      exact ⟨rfl, _, rfl⟩
set_option maxRecDepth 100000 in
set_option maxHeartbeats 4000000 in
theorem arrivalsP_any {base b : Nat} {o a f : Int} {a3 : Option Addr} {s3 c3 : Nat} {v : Value} {l : List Arv} (w : World) (h : BoxAt 97 base b o a f a3 s3 c3 v l w) (hl : l.length ≤ 1000) :
    Calls Tryz.prog 35 #[.pointer (some ⟨b, 0, none⟩)] w (GivesOwn 63 l w) := by
  obtain ⟨hB, hO, hbb⟩ := h
  obtain ⟨la, cap, rfl, hsa, hlf, hcap⟩ := hO.form
  have HC := Lib.hid (fun W (h : SA W la l) => cloneArr_any l la cap W h (by rcases hlf with h | ⟨g, h, -⟩; exact .inl h; exact .inr ⟨g, 0, h⟩) (by omega))
  have hB_l := hB.lt; have hB_0 := hB.cell 0; have hB_1 := hB.cell 1; have hB_2 := hB.cell 2; have hB_3 := hB.cell 3; have hB_4 := hB.cell 4; simp at hB_0 hB_1 hB_2 hB_3 hB_4
  go_enter Tryz.func35, Tryz.ntmps35
  go_wp2_with fail
  refine (HC.out _ hsa).mono ?_
  rintro e w1 ⟨v1, rfl, hown1, hb1⟩
  clear hB_l hB_0 hB_1 hB_2 hB_3 hB_4
  clear hB
  go_wp2_with fail
  go_ret
  exact ⟨v1, rfl, hown1, hb1⟩
set_option maxRecDepth 100000 in
set_option maxHeartbeats 4000000 in
theorem arrivalsR_any {base b : Nat} {o a f : Int} {a3 : Option Addr} {s3 c3 : Nat} {v : Value} {l : List Arv} (w : World) (h : BoxAt 99 base b o a f a3 s3 c3 v l w) (hl : l.length ≤ 1000) :
    Calls Tryz.prog 33 #[.pointer (some ⟨b, 0, none⟩)] w (GivesOwn 63 l w) := by
  obtain ⟨hB, hO, hbb⟩ := h
  obtain ⟨la, cap, rfl, hsa, hlf, hcap⟩ := hO.form
  have HC := Lib.hid (fun W (h : SA W la l) => cloneArr_any l la cap W h (by rcases hlf with h | ⟨g, h, -⟩; exact .inl h; exact .inr ⟨g, 0, h⟩) (by omega))
  have hB_l := hB.lt; have hB_0 := hB.cell 0; have hB_1 := hB.cell 1; have hB_2 := hB.cell 2; have hB_3 := hB.cell 3; have hB_4 := hB.cell 4; simp at hB_0 hB_1 hB_2 hB_3 hB_4
  go_enter Tryz.func33, Tryz.ntmps33
  go_wp2_with fail
  refine (HC.out _ hsa).mono ?_
  rintro e w1 ⟨v1, rfl, hown1, hb1⟩
  clear hB_l hB_0 hB_1 hB_2 hB_3 hB_4
  clear hB
  go_wp2_with fail
  go_ret
  exact ⟨v1, rfl, hown1, hb1⟩
set_option maxRecDepth 100000 in
set_option maxHeartbeats 4000000 in
theorem entriesB_any {base b : Nat} {o a f : Int} {s : List Skill} {a3 : Option Addr} {c3 cap : Nat} {la : Option Addr} {l : List Arv} (t : Int) (w : World) (h : BoxAt 97 base b o a f a3 s.length c3 (.slice la l.length cap) l w) (hI : CallIn a f s a3 l la w) :
    Calls Tryz.prog 32 #[.pointer (some ⟨b, 0, none⟩), .int .i64 t] w (GivesList (stsV o a f s l t) (stsE o a f s l t) w) := by
  obtain ⟨hB, hO, hbb⟩ := h
  have HS := Lib.hid (fun W (h : CallIn a f s a3 l la W) => statesP_any o a f s a3 c3 l la cap t W h)
  unfold callAgg at HS
  generalize stsV o a f s l t = sv at *
  generalize stsE o a f s l t = se at *
  have hB_l := hB.lt; have hB_0 := hB.cell 0; have hB_1 := hB.cell 1; have hB_2 := hB.cell 2; have hB_3 := hB.cell 3; have hB_4 := hB.cell 4; simp at hB_0 hB_1 hB_2 hB_3 hB_4
  go_enter Tryz.func32, Tryz.ntmps32
  go_upto_region 1 with (fail)
  refine wp_region_held_drew (S := (fun wx => (wx.cell? ⟨b, 0, none⟩ = some (.int .i64 o) ∧ wx.cell? ⟨b, 1, none⟩ = some (.int .i64 a) ∧ wx.cell? ⟨b, 2, none⟩ = some (.int .i64 f) ∧ wx.cell? ⟨b, 3, none⟩ = some (.slice a3 s.length c3) ∧ wx.cell? ⟨b, 4, none⟩ = some (.slice la l.length cap)) ∧ Below w.heap.size w wx)) (by kernel_rfl) ?hS (fun hHeld => ?_)
  case hS => exact ⟨⟨hB_0, hB_1, hB_2, hB_3, hB_4⟩, (Below.refl _ _).drew⟩
  refine rtake (i := 0) (d := (some 6)) (v := ?_) rfl (by kernel_rfl) (by kernel_rfl) (by kernel_rfl) (by kernel_rfl) (fun _ _ _ h => h) (by kernel_rfl) (by assumption) ?_ ?_
  rotate_left 1
  · (intro wI hSI; (try dsimp only at hSI); go_simp; (try with_reducible rfl))
  simp only [Act.put, List.setIfInBounds_toArray, List.set_cons_zero, List.set_cons_succ]
  refine rtake (i := 1) (d := (some 7)) (v := ?_) rfl (by kernel_rfl) (by kernel_rfl) (by kernel_rfl) (by kernel_rfl) (fun _ _ _ h => h) (by kernel_rfl) (by assumption) ?_ ?_
  rotate_left 1
  · (intro wI hSI; (try dsimp only at hSI); go_simp; (try with_reducible rfl))
  simp only [Act.put, List.setIfInBounds_toArray, List.set_cons_zero, List.set_cons_succ]
  refine rtake (i := 2) (d := (some 8)) (v := ?_) rfl (by kernel_rfl) (by kernel_rfl) (by kernel_rfl) (by kernel_rfl) (fun _ _ _ h => h) (by kernel_rfl) (by assumption) ?_ ?_
  rotate_left 1
  · (intro wI hSI; (try dsimp only at hSI); go_simp; (try with_reducible rfl))
  simp only [Act.put, List.setIfInBounds_toArray, List.set_cons_zero, List.set_cons_succ]
  refine rtake (i := 3) (d := (some 9)) (v := ?_) rfl (by kernel_rfl) (by kernel_rfl) (by kernel_rfl) (by kernel_rfl) (fun _ _ _ h => h) (by kernel_rfl) (by assumption) ?_ ?_
  rotate_left 1
  · (intro wI hSI; (try dsimp only at hSI); go_simp; (try with_reducible rfl))
  simp only [Act.put, List.setIfInBounds_toArray, List.set_cons_zero, List.set_cons_succ]
  refine rtake (i := 4) (d := (some 10)) (v := ?_) rfl (by kernel_rfl) (by kernel_rfl) (by kernel_rfl) (by kernel_rfl) (fun _ _ _ h => h) (by kernel_rfl) (by assumption) ?_ ?_
  rotate_left 1
  · (intro wI hSI; (try dsimp only at hSI); go_simp; (try with_reducible rfl))
  simp only [Act.put, List.setIfInBounds_toArray, List.set_cons_zero, List.set_cons_succ]
  refine rtake (i := 5) (d := (some 11)) (v := ?_) rfl (by kernel_rfl) (by kernel_rfl) (by kernel_rfl) (by kernel_rfl) (fun _ _ _ h => h) (by kernel_rfl) (by assumption) ?_ ?_
  rotate_left 1
  · (intro wI hSI; (try dsimp only at hSI); go_simp; (try with_reducible rfl))
  simp only [Act.put, List.setIfInBounds_toArray, List.set_cons_zero, List.set_cons_succ]
  refine rtake (i := 6) (d := (some 12)) (v := ?_) rfl (by kernel_rfl) (by kernel_rfl) (by kernel_rfl) (by kernel_rfl) (fun _ _ _ h => h) (by kernel_rfl) (by assumption) ?_ ?_
  rotate_left 1
  · (intro wI hSI; (try dsimp only at hSI); go_simp; (try with_reducible rfl))
  simp only [Act.put, List.setIfInBounds_toArray, List.set_cons_zero, List.set_cons_succ]
  refine rtake (i := 7) (d := (some 13)) (v := ?_) rfl (by kernel_rfl) (by kernel_rfl) (by kernel_rfl) (by kernel_rfl) (fun _ _ _ h => h) (by kernel_rfl) (by assumption) ?_ ?_
  rotate_left 1
  · (intro wI hSI; (try dsimp only at hSI); go_simp; (try with_reducible rfl))
  simp only [Act.put, List.setIfInBounds_toArray, List.set_cons_zero, List.set_cons_succ]
  refine rtake (i := 8) (d := (some 14)) (v := ?_) rfl (by kernel_rfl) (by kernel_rfl) (by kernel_rfl) (by kernel_rfl) (fun _ _ _ h => h) (by kernel_rfl) (by assumption) ?_ ?_
  rotate_left 1
  · (intro wI hSI; (try dsimp only at hSI); go_simp; (try with_reducible rfl))
  simp only [Act.put, List.setIfInBounds_toArray, List.set_cons_zero, List.set_cons_succ]
  refine rcall (i := 9) (d := (some 15)) (by kernel_rfl) rfl (by kernel_rfl) (fun K hK => ?_)
  go_simp
  go_at_call 10; refine (HS.out _ (hI.below hHeld.2)).mono ?_; rintro e w1 ⟨hb1, ad, len, cp, rfl, hlen, hsv⟩
  refine hK.out _ _ ?hS (fun hHeld => ?_)
  case hS => exact ⟨⟨cell_later hb1 hHeld.1.1, cell_later hb1 hHeld.1.2.1, cell_later hb1 hHeld.1.2.2.1, cell_later hb1 hHeld.1.2.2.2.1, cell_later hb1 hHeld.1.2.2.2.2⟩, below_next hHeld.2 hb1⟩
  clear hK K
  simp only [Act.put, List.setIfInBounds_toArray, List.set_cons_zero, List.set_cons_succ]
  refine rtake (i := 10) (d := (some 16)) (v := ?_) rfl (by kernel_rfl) (by kernel_rfl) (by kernel_rfl) (by kernel_rfl) (fun _ _ _ h => h) (by kernel_rfl) (by assumption) ?_ ?_
  rotate_left 1
  · (intro wI hSI; (try dsimp only at hSI); go_simp; (try with_reducible rfl))
  simp only [Act.put, List.setIfInBounds_toArray, List.set_cons_zero, List.set_cons_succ]
  refine rtake (i := 11) (d := (some 17)) (v := ?_) rfl (by kernel_rfl) (by kernel_rfl) (by kernel_rfl) (by kernel_rfl) (fun _ _ _ h => h) (by kernel_rfl) (by assumption) ?_ ?_
  rotate_left 1
  · (intro wI hSI; (try dsimp only at hSI); go_simp; (try with_reducible rfl))
  simp only [Act.put, List.setIfInBounds_toArray, List.set_cons_zero, List.set_cons_succ]
  refine rtake (i := 12) (d := (some 4)) (v := ?_) rfl (by kernel_rfl) (by kernel_rfl) (by kernel_rfl) (by kernel_rfl) (fun _ _ _ h => h) (by kernel_rfl) (by assumption) ?_ ?_
  rotate_left 1
  · (intro wI hSI; (try dsimp only at hSI); go_simp; (try with_reducible rfl))
  simp only [Act.put, List.setIfInBounds_toArray, List.set_cons_zero, List.set_cons_succ]
  refine rtake (i := 13) (d := (some 5)) (v := ?_) rfl (by kernel_rfl) (by kernel_rfl) (by kernel_rfl) (by kernel_rfl) (fun _ _ _ h => h) (by kernel_rfl) (by assumption) ?_ ?_
  rotate_left 1
  · (intro wI hSI; (try dsimp only at hSI); go_simp; (try with_reducible rfl))
  simp only [Act.put, List.setIfInBounds_toArray, List.set_cons_zero, List.set_cons_succ]
  refine wpAnyH_done (by kernel_rfl) ?_ _
  have hbF := hHeld.2
  have Hsv := Lib.hid hsv
  clear hB_l hB_0 hB_1 hB_2 hB_3 hB_4
  clear hHeld hsv hB hb1
  go_wp2_with fail
  go_ret2
  exact ⟨hbF, ad, len, cp, rfl, hlen, Hsv.out⟩
set_option maxRecDepth 100000 in
set_option maxHeartbeats 4000000 in
/-- A new box, or what is wrong with the call. -/
theorem newBoxP_any (o a f : Int) (s : List Skill) (a3 : Option Addr) (c3 : Nat) (w : World) (hs : SA w a3 s) (hsf : a3 = none ∨ ∃ b off, a3 = some ⟨b, off, none⟩) (hsl : s.length ≤ 1000000) (hsm : ∀ x ∈ s, x.1.size ≤ 1000) :
    Calls Tryz.prog 22 #[callAgg o a f s a3 c3] w (fun e w' => Below w.heap.size w w' ∧ ∃ ad, e = .returned (.tuple #[.pointer ad, .int .i64 (callFault o a f s)]) ∧ (callFault o a f s = 0 → ∃ b r3 k3, ad = some ⟨b, 0, none⟩ ∧ w.heap.size ≤ b ∧ Box w' b 97 #[.int .i64 o, .int .i64 a, .int .i64 f, .slice r3 s.length k3, .slice none 0 0] ∧ SA w' r3 s ∧ ∀ x : Addr, r3 = some x → w.heap.size ≤ x.block ∧ x.block < b)) := by
  have HC := Lib.hid (fun W (h : SA W a3 s) => checkCall_any o a f s a3 c3 W h hsl hsm)
  have HR := Lib.hid (fun W (h : SA W a3 s) => cloneRea_any s a3 c3 W h hsf hsl)
  unfold callAgg at *
  generalize callFault o a f s = cf at *
  have hX := Box.new w 28 #[.int .i64 o, .int .i64 a, .int .i64 f, .slice a3 s.length c3]
  have hb0 : Below w.heap.size w (w.alloc (.cells #[.int .i64 o, .int .i64 a, .int .i64 f, .slice a3 s.length c3] 28)) := (Below.refl _ _).alloc (Nat.le_refl _) _
  have hsa0 := hs.alloc (.cells #[.int .i64 o, .int .i64 a, .int .i64 f, .slice a3 s.length c3] 28)
  go_enter Tryz.func22, Tryz.ntmps22
  go_wp2_with fail
  refine (HC.out _ hsa0).mono ?_
  rintro e w1 ⟨rfl, hb1⟩
  have hbw := below_next hb0 hb1
  have hX1 := hX.below hb1
  have hsa1 := hsa0.below hb1
  clear hX hb0 hb1 hsa0 hs
  by_cases hcf : cf = 0
  · subst hcf
    have hX1_l := hX1.lt; have hX1_0 := hX1.cell 0; have hX1_1 := hX1.cell 1; have hX1_2 := hX1.cell 2; have hX1_3 := hX1.cell 3; simp at hX1_0 hX1_1 hX1_2 hX1_3
    go_wp2_with fail
    refine (HR.out _ hsa1).mono ?_
    rintro e w2 ⟨v2, rfl, hown2, hb2⟩
    have hX2 := hX1.below hb2
    have hbw2 := below_next hbw hb2
    have hz1 := hX1.lt
    have hz2 := hbw.size
    obtain ⟨r3, k3, rfl, hsr, hlt3, -⟩ := hown2.sa
    clear hX1_l hX1_0 hX1_1 hX1_2 hX1_3
    clear hX1 hb2 hbw hsa1
    have hX3 : Box (w2.setCell ⟨w.heap.size, 3, none⟩ (.slice r3 s.length k3)) w.heap.size 28 #[.int .i64 o, .int .i64 a, .int .i64 f, .slice r3 s.length k3] := by simpa using hX2.set 3 (.slice r3 s.length k3)
    have hb3 : Below w.heap.size w (w2.setCell ⟨w.heap.size, 3, none⟩ (.slice r3 s.length k3)) := hbw2.setCell (by show _ ≤ w.heap.size; omega) _
    have hsr3 : SA (w2.setCell ⟨w.heap.size, 3, none⟩ (.slice r3 s.length k3)) r3 s := hsr.kp ((Kp.refl (fun j => j = w.heap.size) w2).setCell (p := ⟨w.heap.size, 3, none⟩) (.inl rfl) _) (fun x hx _ e => by have := (hlt3 x hx).1; omega)
    have hzw : w2.heap.size ≤ (w2.setCell ⟨w.heap.size, 3, none⟩ (.slice r3 s.length k3)).heap.size := ((Kp.refl (fun j => j = w.heap.size) w2).setCell (p := ⟨w.heap.size, 3, none⟩) (.inl rfl) (.slice r3 s.length k3)).size
    have Hlt := Lib.hid (fun x hx => And.intro (Nat.le_trans (Nat.le_of_lt hz1) (hlt3 x hx).1) (Nat.lt_of_lt_of_le (hlt3 x hx).2 hzw))
    clear hzw
    have hc3 := hX2.cell 3
    have hf3 := hX2.frozen 3
    simp at hc3
    clear hX2 hbw2 hsr hlt3 hown2
    go_upto_region 5 with (fail)
    clear hc3 hf3
    generalize w2.setCell ⟨w.heap.size, 3, none⟩ (.slice r3 s.length k3) = W3 at *
    have hX3_l := hX3.lt; have hX3_0 := hX3.cell 0; have hX3_1 := hX3.cell 1; have hX3_2 := hX3.cell 2; have hX3_3 := hX3.cell 3; simp at hX3_0 hX3_1 hX3_2 hX3_3
    have hbN := Box.new W3 97 #[.int .i64 o, .int .i64 a, .int .i64 f, .slice r3 s.length k3, .slice none 0 0]
    have hbF : Below w.heap.size w (W3.alloc (.cells #[.int .i64 o, .int .i64 a, .int .i64 f, .slice r3 s.length k3, .slice none 0 0] 97)) := hb3.alloc (by have := hb3.size; omega) _
    have hsF := hsr3.alloc (.cells #[.int .i64 o, .int .i64 a, .int .i64 f, .slice r3 s.length k3, .slice none 0 0] 97)
    have hzF := hb3.size
    go_wp2_with fail
    go_ret2
    have HFB : Hid (∃ b r3' k3', some (⟨W3.heap.size, 0, none⟩ : Addr) = some ⟨b, 0, none⟩ ∧ w.heap.size ≤ b ∧ Box (W3.alloc (.cells #[.int .i64 o, .int .i64 a, .int .i64 f, .slice r3 s.length k3, .slice none 0 0] 97)) b 97 #[.int .i64 o, .int .i64 a, .int .i64 f, .slice r3' s.length k3', .slice none 0 0] ∧ SA (W3.alloc (.cells #[.int .i64 o, .int .i64 a, .int .i64 f, .slice r3 s.length k3, .slice none 0 0] 97)) r3' s ∧ ∀ x : Addr, r3' = some x → w.heap.size ≤ x.block ∧ x.block < b) := ⟨W3.heap.size, r3, k3, rfl, hzF, hbN, hsF, Hlt.out⟩
    refine ⟨hbF, _, rfl, ?_⟩
    first | exact fun _ => HFB.out | exact HFB.out | simpa using HFB.out
  · have hq : (cf != 0) = true := by simpa using hcf
    have Hcf := Lib.hid hcf
    clear hcf hX1 hsa1
    go_wp2_with fail
    go_ret2
    exact ⟨hbw, _, rfl, fun h => absurd h Hcf.out⟩
set_option maxRecDepth 100000 in
set_option maxHeartbeats 4000000 in
theorem newBoxR_any (o a f : Int) (s : List Skill) (a3 : Option Addr) (c3 : Nat) (w : World) :
    Calls Tryz.prog 25 #[callAgg o a f s a3 c3] w (fun e w' => Below w.heap.size w w' ∧ ∃ b, e = .returned (.pointer (some ⟨b, 0, none⟩)) ∧ w.heap.size ≤ b ∧ Box w' b 99 #[.int .i64 o, .int .i64 a, .int .i64 f, .slice a3 s.length c3, .slice none 0 0]) := by
  unfold callAgg at *
  have hX := Box.new w 28 #[.int .i64 o, .int .i64 a, .int .i64 f, .slice a3 s.length c3]
  have hb0 : Below w.heap.size w (w.alloc (.cells #[.int .i64 o, .int .i64 a, .int .i64 f, .slice a3 s.length c3] 28)) := (Below.refl _ _).alloc (Nat.le_refl _) _
  have hz : w.heap.size ≤ (w.alloc (.cells #[.int .i64 o, .int .i64 a, .int .i64 f, .slice a3 s.length c3] 28)).heap.size := by simp
  go_enter Tryz.func25, Tryz.ntmps25
  go_upto_region 1 with (fail)
  generalize w.alloc (.cells #[.int .i64 o, .int .i64 a, .int .i64 f, .slice a3 s.length c3] 28) = W at *
  have hX_l := hX.lt; have hX_0 := hX.cell 0; have hX_1 := hX.cell 1; have hX_2 := hX.cell 2; have hX_3 := hX.cell 3; simp at hX_0 hX_1 hX_2 hX_3
  have hbN := Box.new W 99 #[.int .i64 o, .int .i64 a, .int .i64 f, .slice a3 s.length c3, .slice none 0 0]
  have hbF := hb0.alloc hz (.cells #[.int .i64 o, .int .i64 a, .int .i64 f, .slice a3 s.length c3, .slice none 0 0] 99)
  go_wp2_with fail
  go_ret
  exact ⟨hbF, _, rfl, hz, hbN⟩
end Go.Proofs.YtifflpilnpcmoaaGreatDoor
