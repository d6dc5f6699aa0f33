/- slices.Clone and slices.Reverse of topics. -/
import Derived.Test.YtfpoaggkjhcdnaaDoorTopicMake2
import Derived.RegionTactic
import Derived.ChangeAlike
import Derived.BigRegion
namespace Go.Proofs.YtfpoaggkjhcdnaaDoor
open Go.RowKit
set_option linter.unusedVariables false

def Tryd.laysCloneTopic_ren : Go.Shelf.Ren := ⟨fun | 41 => 32 | n => n, fun | 22 => 26 | 23 => 65 | 4 => 4 | n => n, fun | n => n⟩
theorem Tryd.laysCloneTopic : Go.Proofs.SlLaysE0.n41 Tryd.prog Tryd.laysCloneTopic_ren := {
  mixed := by kernel_rfl
  f41 := ⟨Tryd.f32.name, by decide, Tryd.func32.trans (congrArg some (by kernel_rfl))⟩
  t4 := Tryd.underlying4
  a4 := Tryd.isAgg4
  z4 := Tryd.sizeOf4
  v4 := Tryd.zeroValue4
  t22 := Tryd.underlying26
  a22 := Tryd.isAgg26
  z22 := Tryd.sizeOf26
  v22 := Tryd.zeroValue26 }

theorem Tryd.infoTopic : (Tryd.prog.info? 65).map (fun i => (i.zero, i.size, i.bytes)) = some (some (.agg #[.string ⟨#[]⟩, .string ⟨#[]⟩]), 2, 32) := by kernel_rfl

theorem flat_len {α : Type} [Cel α] (l : List α) : (l.flatMap Cel.cells).length = l.length * Cel.k α := by
  induction l with
  | nil => simp
  | cons x r ih => rw [List.flatMap_cons, List.length_append, ih, Cel.len, List.length_cons, Nat.add_mul]; omega
theorem flat_one {α : Type} [Cel α] (l : List α) : ∀ u ∈ l.flatMap Cel.cells, u.oneCell' = true := fun u hu => by
  obtain ⟨x, _, hx⟩ := List.mem_flatMap.1 hu
  exact Cel.one x u hx
theorem ArrAt.flat {α : Type} [Cel α] {w : World} {b off : Nat} {l : List α} (h : ArrAt w b off l) : ∀ j u, (l.flatMap Cel.cells)[j]? = some u → w.cell? ⟨b, off + j, none⟩ = some u := fun j u hu => by
  have hj : j < l.length * Cel.k α := by rw [← flat_len]; exact (List.getElem?_eq_some_iff.1 hu).1
  have hp := Cel.pos (α := α)
  have hi : j / Cel.k α < l.length := Nat.div_lt_of_lt_mul (by rw [Nat.mul_comm]; exact hj)
  have hm : j % Cel.k α < Cel.k α := Nat.mod_lt _ hp
  have hd : j / Cel.k α * Cel.k α + j % Cel.k α = j := by rw [Nat.mul_comm]; exact Nat.div_add_mod j _
  have h1 := h (j / Cel.k α) (j % Cel.k α) _ (List.getElem?_eq_getElem hi) hm
  have h2 := flat_get l (j / Cel.k α) (j % Cel.k α) _ (List.getElem?_eq_getElem hi) hm
  rw [hd] at h1 h2
  rw [h1, ← h2, hu]

theorem cloneTopic_any (l : List Topic) (a : Option Addr) (cap : Nat) (w : World) (h : SA w a l) (hp : a = none ∨ ∃ b off, a = some ⟨b, off, none⟩) (hlen : l.length ≤ 1000000000) :
    Calls Tryd.prog 32 #[.slice a l.length cap] w (GivesOwn 65 l w) := by
  obtain ⟨i0, hi, hz0, hz1, hz2⟩ := info_parts Tryd.infoTopic
  cases a with
  | none =>
    rcases h with rfl | ⟨b, off, h, _⟩
    · refine (AnyE.slices_Clone_nil Tryd.laysCloneTopic 0 cap w).mono ?_
      rintro e w' ⟨rfl, rfl⟩
      exact ⟨_, rfl, Own.nil _ _ _, Below.refl _ _⟩
    · cases h
  | some x =>
    obtain ⟨b, off, rfl⟩ : ∃ b off, x = ⟨b, off, none⟩ := by
      rcases hp with hp | ⟨b, off, hp⟩
      · cases hp
      · cases hp; exact ⟨b, off, rfl⟩
    have ha : ArrAt w b off l := by
      rcases h with rfl | ⟨b, off, h, ha⟩
      · intro i j x hx; simp at hx
      · cases h; exact ha
    refine (AnyE.slices_Clone Tryd.laysCloneTopic i0 _ 2 32 hi hz0 hz1 hz2 (by rfl) (by omega) Tryd.sizeOf65 b off l.length cap (l.flatMap Cel.cells) w (flat_len l) (by unfold maxLen; omega) (by omega) ha.flat (flat_one l)).mono ?_
    rintro e w' ⟨v, rfl, h1, _, h2⟩
    exact ⟨v, rfl, h1, h2⟩

theorem flat_set {α : Type} [Cel α] (l : List α) (i j : Nat) (y : α) (u : Value) (hi : i < l.length) (hj : j < Cel.k α) (hy : Cel.cells y = (Cel.cells l[i]).set j u) : (l.set i y).flatMap Cel.cells = (l.flatMap Cel.cells).set (i * Cel.k α + j) u := by
  induction l generalizing i with
  | nil => simp at hi
  | cons x r ih =>
    cases i with
    | zero =>
      simp only [List.set_cons_zero, List.flatMap_cons]
      rw [List.set_append_left _ _ (by rw [Cel.len]; omega), hy]
      simp
    | succ i =>
      simp only [List.set_cons_succ, List.flatMap_cons]
      have e : (i + 1) * Cel.k α + j = Cel.k α + (i * Cel.k α + j) := by rw [Nat.add_mul]; omega
      rw [List.set_append_right _ _ (by rw [Cel.len]; omega), Cel.len, e, Nat.add_sub_cancel_left, ih i (by simpa using hi) (by simpa using hy)]

/-- A store into a slice of one's own. -/
theorem Own.put {α : Type} [Cel α] {w : World} {base : Nat} {E : TypeId} {g n cap : Nat} {l : List α} (h : Own base E w (.slice (some ⟨g, 0, none⟩) n cap) l) (i j : Nat) (y : α) (u : Value) (hi : i < l.length) (hj : j < Cel.k α) (hy : Cel.cells y = (Cel.cells l[i]).set j u) :
    Own base E (w.setCell ⟨g, i * Cel.k α + j, none⟩ u) (.slice (some ⟨g, 0, none⟩) n cap) (l.set i y) := by
  obtain ⟨h1, h2⟩ := h
  unfold Own
  rw [List.length_set, flat_set l i j y u hi hj hy]
  refine ⟨by rw [List.length_set]; exact h1, ?_⟩
  rcases h2 with ⟨h2, _⟩ | ⟨g', cap', cur, he, r1, r2, r3, r4, r5, r6⟩
  · cases h2
  · cases he
    refine .inr ⟨g, cap, cur.setIfInBounds (i * Cel.k α + j) u, rfl, r1, ?_, r3, r4, by simpa using r5, ?_⟩
    · exact (show Box w g E cur from r2).set _ _
    · rw [← r6]
      simp [List.take_set]
theorem Own.box {α : Type} [Cel α] {w : World} {base : Nat} {E : TypeId} {g n cap : Nat} {l : List α} (h : Own base E w (.slice (some ⟨g, 0, none⟩) n cap) l) : ∃ cur, Box w g E cur := by
  obtain ⟨h1, h2⟩ := h
  rcases h2 with ⟨h2, _⟩ | ⟨g', cap', cur, he, r1, r2, _⟩
  · cases h2
  · cases he; exact ⟨cur, r2⟩

/-- Four stores of an exchange. -/
theorem Own.setT {w : World} {base : Nat} {E : TypeId} {g n cap : Nat} {l : List Topic} (h : Own base E w (.slice (some ⟨g, 0, none⟩) n cap) l) (hsm : SmallT l) (i : Nat) (hi : i < l.length) (x y : ByteArray) (hx : x.size ≤ 1000000) (hy : y.size ≤ 1000000) :
    ∃ l', l'.length = l.length ∧ SmallT l' ∧ Own base E ((w.setCell ⟨g, i * 2, none⟩ (.string x)).setCell ⟨g, i * 2 + 1, none⟩ (.string y)) (.slice (some ⟨g, 0, none⟩) n cap) l' := by
  have h1 := h.put i 0 (x, l[i].2) (.string x) hi (by decide) rfl
  have h2 := h1.put i 1 (x, y) (.string y) (by simpa using hi) (by decide) (by simp; rfl)
  refine ⟨_, ?_, ?_, h2⟩
  · simp
  · intro t ht
    rcases List.mem_or_eq_of_mem_set ht with ht | rfl
    · rcases List.mem_or_eq_of_mem_set ht with ht | rfl
      · exact hsm t ht
      · exact ⟨hx, (hsm _ (List.getElem_mem hi)).2⟩
    · exact ⟨hx, hy⟩

/-- A forest of one's own was turned round in place. -/
def TurnedT (base n cap : Nat) (a : Option Addr) (w : World) (e : Ending) (w' : World) : Prop :=
  ∃ l' : List Topic, e = .returned (.tuple #[]) ∧ l'.length = n ∧ SmallT l' ∧ Own base 65 w' (.slice a n cap) l' ∧ Below base w w'

set_option maxRecDepth 100000 in
set_option maxHeartbeats 2000000 in
theorem reverse_any (base : Nat) (l : List Topic) (a : Option Addr) (cap : Nat) (w : World) (hown : Own base 65 w (.slice a l.length cap) l) (hlen : l.length ≤ 1000000) (hsm : SmallT l) :
    Calls Tryd.prog 35 #[.slice a l.length cap] w (TurnedT base l.length cap a w) := by
  obtain ⟨n, hn⟩ : ∃ n, l.length = n := ⟨_, rfl⟩
  rw [hn] at hown hlen ⊢
  have Hn := Lib.hid hn
  clear hn
  go_enter Tryd.func35, Tryd.ntmps35
  go_wp2_with fail
  go_loopg [2, 3] n (fun gk i j wr => ∃ (k : Nat) (l' : List Topic), i = .int .i64 k ∧ j = .int .i64 ((n : Int) - 1 - k) ∧ k ≤ n ∧ Hid (gk = n - k) ∧ Hid (l'.length = n) ∧ Hid (SmallT l') ∧ Own base 65 wr (.slice a n cap) l' ∧ Below base w wr)
  case atStart => exact ⟨0, l, rfl, by simp, by omega, rfl, Hn.out, hsm, hown, Below.refl _ _⟩
  case round =>
    obtain ⟨k, l', rfl, rfl, hk, hgk, hl', hs', hown', hb⟩ := hrel
    by_cases hlt : 2 * k + 1 < n
    · obtain ⟨m, hm⟩ : ∃ m : Nat, m + k + 1 = n := ⟨n - 1 - k, by omega⟩
      have hmi : (n : Int) - 1 - k = m := by omega
      rw [hmi]
      obtain ⟨a', cap', he, hsa, hbl, _⟩ := hown'.sa
      simp only [Value.slice.injEq] at he
      obtain ⟨rfl, -, rfl⟩ := he
      obtain ⟨g, off, ha, c0, c1⟩ := hsa.topic (i := k) (by have := hl'.out; omega)
      have hg0 : off = 0 := by
        obtain ⟨_, h2⟩ := hown'
        rcases h2 with ⟨h2, _⟩ | ⟨g', cap', cur, he, _⟩
        · simp at h2; rw [h2.1] at ha; cases ha
        · cases he; cases ha; rfl
      subst hg0
      obtain ⟨g2, off2, ha2, d0, d1⟩ := hsa.topic (i := m) (by have := hl'.out; omega)
      rw [ha] at ha2
      cases ha2
      rw [ha] at hown'
      obtain ⟨cur, hbx⟩ := hown'.box
      rw [Nat.zero_add] at c0 c1 d0 d1
      have f0 := hbx.frozen (k * 2)
      have f1 := hbx.frozen (k * 2 + 1)
      have f2 := hbx.frozen (m * 2)
      have f3 := hbx.frozen (m * 2 + 1)
      have hk' : k < l'.length := by have := hl'.out; omega
      have hm' : m < l'.length := by have := hl'.out; omega
      have Hk1 := Lib.hid (hs'.out _ (List.getElem_mem hk'))
      have Hm1 := Lib.hid (hs'.out _ (List.getElem_mem hm'))
      have Hown := Lib.hid hown'
      have hkm : k ≠ m := by omega
      generalize l'[k].1 = x1 at *
      generalize l'[k].2 = x2 at *
      generalize l'[m].1 = y1 at *
      generalize l'[m].2 = y2 at *
      rw [ha]
      clear hsa hbl hbx
      go_wp2_with fail
      go_region
      go_wp2_with fail
      rw [← ha]
      go_roundg (n - (k + 1))
      case measure => have := hgk.out; omega
      case rel =>
        obtain ⟨l1, q1, q2, q3⟩ := Hown.out.setT hs'.out k hk' y1 y2 Hm1.out.1 Hm1.out.2
        obtain ⟨l2, q4, q5, q6⟩ := q3.setT q2 m (by omega) x1 x2 Hk1.out.1 Hk1.out.2
        have hg := (hown'.lt g rfl).1
        exact ⟨k + 1, l2, by go_num, by go_num, by omega, rfl, by have := hl'.out; show l2.length = n; omega, q5, by rw [ha]; exact q6.drew, ((((hb.setCell hg _).setCell hg _).setCell hg _).setCell hg _).drew⟩
    · go_wp2_with fail
      go_end0
      exact ⟨l', rfl, hl'.out, hs'.out, hown', hb⟩
end Go.Proofs.YtfpoaggkjhcdnaaDoor
