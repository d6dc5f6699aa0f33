/- The program's forest: forestOf makes a map from each key to all that stand above it. -/
import Derived.Test.YtpgofjjcmldhpaaGreatDoorTopic2
/-! The program's forest: forestOf makes a map from each key to all that stand above it. -/
namespace Go.Proofs.YtpgofjjcmldhpaaGreatDoor
open Go.RowKit
set_option linter.unusedVariables false

/-- The empty string. -/
def e0 : ByteArray := ⟨#[]⟩
/-- The map 'up'. -/
def upList (l : List Topic) : List (ByteArray × Value) := l.map (fun t => (t.1, Value.string t.2))

theorem mget_upList (l : List Topic) (k : ByteArray) : mget (upList l) k = (ForestPure.topicOf l k).map (fun t => Value.string t.2) := by
  unfold upList ForestPure.topicOf
  induction l with
  | nil => rfl
  | cons t r ih =>
    by_cases h : t.1 = k
    · simp [mget, h]
    · simp [mget, h, ih]
theorem looked_up (l : List Topic) (k : ByteArray) : looked (upList l) k (.string ⟨#[]⟩) false = .string (ForestPure.upOf e0 l k) := by
  unfold looked ForestPure.upOf e0
  rw [mget_upList]
  cases ForestPure.topicOf l k <;> rfl
theorem looked_up2 (l : List Topic) (k : ByteArray) : looked (upList l) k (.string ⟨#[]⟩) true = .tuple #[.string (ForestPure.upOf e0 l k), .bool (ForestPure.topicOf l k).isSome] := by
  unfold looked ForestPure.upOf e0
  rw [mget_upList]
  cases ForestPure.topicOf l k <;> rfl

theorem mput_new (es : List (ByteArray × Value)) (k : ByteArray) (v : Value) (h : ∀ p ∈ es, p.1 ≠ k) : mput es k v = es ++ [(k, v)] := by
  induction es with
  | nil => rfl
  | cons p r ih =>
    rw [mput, if_neg (h p (by simp)), ih (fun q hq => h q (by simp [hq]))]; rfl
theorem mput_last (es : List (ByteArray × Value)) (k : ByteArray) (v u : Value) (h : ∀ p ∈ es, p.1 ≠ k) : mput (es ++ [(k, u)]) k v = es ++ [(k, v)] := by
  induction es with
  | nil => simp [mput]
  | cons p r ih =>
    rw [List.cons_append, mput, if_neg (h p (by simp)), ih (fun q hq => h q (by simp [hq]))]; rfl
theorem mget_new (es : List (ByteArray × Value)) (k : ByteArray) (h : ∀ p ∈ es, p.1 ≠ k) : mget es k = none := by
  induction es with
  | nil => rfl
  | cons p r ih => rw [mget, if_neg (h p (by simp)), ih (fun q hq => h q (by simp [hq]))]
theorem mget_last (es : List (ByteArray × Value)) (k : ByteArray) (u : Value) (h : ∀ p ∈ es, p.1 ≠ k) : mget (es ++ [(k, u)]) k = some u := by
  induction es with
  | nil => simp [mget]
  | cons p r ih => rw [List.cons_append, mget, if_neg (h p (by simp)), ih (fun q hq => h q (by simp [hq]))]

theorem once_take {l : List Topic} (h : ForestPure.Once l) {i : Nat} (hi : i < l.length) : ∀ t ∈ l.take i, t.1 ≠ l[i].1 := by
  intro t ht he
  obtain ⟨j, hj, rfl⟩ := List.mem_take_iff_getElem.1 ht
  have hn : (l.map (·.1)).Nodup := h
  have := (List.nodup_iff_pairwise_ne.1 hn)
  rw [List.pairwise_iff_getElem] at this
  refine this j i (by simp; omega) (by simpa using hi) (by omega) ?_
  simpa using he

theorem mput_upList {l : List Topic} (h : ForestPure.Once l) {i : Nat} (hi : i < l.length) : mput (upList (l.take i)) l[i].1 (.string l[i].2) = upList (l.take (i + 1)) := by
  rw [mput_new, List.take_succ_eq_append_getElem hi]
  · unfold upList; rw [List.map_append]; rfl
  · intro p hp
    obtain ⟨t, ht, rfl⟩ := List.mem_map.1 hp
    exact once_take h hi t ht

theorem Tryz.zeroString (w : World) : (zeroValue 9).run Tryz.prog w = .ok (.string ⟨#[]⟩) w := Tryz.zeroValue9 w
theorem Tryz.zeroStrings (w : World) : (zeroValue 52).run Tryz.prog w = .ok (.slice none 0 0) w := Tryz.zeroValue52 w

/-- A slice value reads as a list. -/
def Rds {α : Type} [Cel α] (w : World) (v : Value) (ls : List α) : Prop := ∃ a cap, v = .slice a ls.length cap ∧ SA w a ls ∧ ls.length ≤ cap
theorem Rds.below {α : Type} [Cel α] {w w' : World} {v : Value} {ls : List α} (h : Rds w v ls) (hb : Below w.heap.size w w') : Rds w' v ls := by
  obtain ⟨a, cap, h1, h2, h3⟩ := h; exact ⟨a, cap, h1, h2.below hb, h3⟩
theorem Own.rds {α : Type} [Cel α] {base : Nat} {E : TypeId} {w : World} {v : Value} {ls : List α} (h : Own base E w v ls) : Rds w v ls := by
  obtain ⟨a, cap, h1, h2, _, h3⟩ := h.sa; exact ⟨a, cap, h1, h2, h3⟩

/-- A slice stays while the map in block b is written. -/
theorem SA.stpMap {α : Type} [Cel α] {w w' : World} {a : Option Addr} {ls : List α} {b : Nat} {es : List (ByteArray × Value)} (h : SA w a ls) (hm : MBox w b es) (hs : Stp b w w') : SA w' a ls := by
  rcases h with h | ⟨c, off, rfl, h⟩
  · exact .inl h
  · by_cases hl : ls = []
    · exact .inl hl
    · refine .inr ⟨c, off, rfl, h.same (hs.block c (h.lt hl) ?_)⟩
      rintro rfl
      obtain ⟨ar, cl, h1, _⟩ := hm
      obtain ⟨x, r, rfl⟩ := List.exists_cons_of_ne_nil hl
      have h0 := h 0 0 x rfl Cel.pos
      have hx := Cel.len x
      have hp := Cel.pos (α := α)
      rw [List.getElem?_eq_getElem (by omega)] at h0
      simp [World.cell?, h1] at h0
theorem Rds.stpMap {α : Type} [Cel α] {w w' : World} {v : Value} {ls : List α} {b : Nat} {es : List (ByteArray × Value)} (h : Rds w v ls) (hm : MBox w b es) (hs : Stp b w w') : Rds w' v ls := by
  obtain ⟨a, cap, h1, h2, h3⟩ := h; exact ⟨a, cap, h1, h2.stpMap hm hs, h3⟩

/-- The map of a forest, as far as the first i topics. -/
def FMap (w : World) (b : Nat) (l : List Topic) (i : Nat) : Prop :=
  ∃ es, MBox w b es ∧ es.map (·.1) = (l.take i).map (·.1) ∧ ∀ p ∈ es, Rds w p.2 (ForestPure.aboveN l (l.length + 1) p.1)
theorem FMap.stp {w w' : World} {b : Nat} {l : List Topic} {i : Nat} (h : FMap w b l i) (hb : Below w.heap.size w w') : FMap w' b l i := by
  obtain ⟨es, h1, h2, h3⟩ := h
  exact ⟨es, h1.below hb, h2, fun p hp => (h3 p hp).below hb⟩

/-- A right forest, for the way up. -/
structure RightF (l : List Topic) : Prop where
  keys : ∀ t ∈ l, t.1 ≠ e0
  once : ForestPure.Once l
  closed : ForestPure.Closed e0 l
  noLoop : ForestPure.NoLoop e0 l

/-- The number of steps up, and what they are. -/
theorem RightF.way {l : List Topic} (h : RightF l) {t : Topic} (ht : t ∈ l) :
    ∃ m, m ≤ l.length ∧ ForestPure.iterUp e0 l m t.1 = e0 ∧ (∀ j, j < m → ForestPure.iterUp e0 l j t.1 ≠ e0) ∧ ForestPure.aboveN l (l.length + 1) t.1 = (List.range m).map (fun j => ForestPure.iterUp e0 l j t.1) := by
  obtain ⟨m, hm, he⟩ := ForestPure.ends h.keys h.closed h.noLoop h.once ⟨t, ht, rfl⟩
  obtain ⟨m', ⟨hm', he'⟩, hmin⟩ := exists_least (p := fun m => m ≤ l.length ∧ ForestPure.iterUp e0 l m t.1 = e0) ⟨m, hm, he⟩
  have hlt : ∀ j, j < m' → ForestPure.iterUp e0 l j t.1 ≠ e0 := fun j hj hh => by
    have := hmin j ⟨by omega, hh⟩; omega
  exact ⟨m', hm', he', hlt, ForestPure.aboveN_range h.keys h.closed ⟨t, ht, rfl⟩ m' he' hlt _ (by omega)⟩

theorem Below.of_stp {S B : Nat} {w w' : World} (h : Stp S w w') (hB : B ≤ S) (hw : B ≤ w.heap.size) : Below B w w' :=
  ⟨h.os, h.tape, h.output, h.size, fun k hk => h.block k (by omega) (by omega)⟩
theorem MBox.stp {S b : Nat} {w w' : World} {es : List (ByteArray × Value)} (h : MBox w b es) (k : Stp S w w') (hS : b ≠ S) : MBox w' b es := h.same (k.block _ h.lt hS)

/-- The map in block b while the list of one key grows. -/
def Grows (wi : World) (b N : Nat) (es : List (ByteArray × Value)) (x : ByteArray) (acc : List ByteArray) : Prop :=
  ∃ ej v, MBox wi b ej ∧ Own N 9 wi v acc ∧ looked ej x (.slice none 0 0) false = v ∧ (∀ u, mput ej x u = es ++ [(x, u)]) ∧ (acc ≠ [] → ej = es ++ [(x, v)])

theorem Grows.step {wi w1 w2 : World} {b N : Nat} {es ej : List (ByteArray × Value)} {x kj : ByteArray} {acc : List ByteArray} {u : Value}
    (hown : Own N 9 w1 u (acc ++ [kj])) (h4 : ∀ u, mput ej x u = es ++ [(x, u)]) (hne : ∀ p ∈ es, p.1 ≠ x) (hN : b < N) (hM : MBox w2 b (mput ej x u)) (hg : w1.grownBy w2 (some b)) : Grows w2 b N es x (acc ++ [kj]) := by
  refine ⟨mput ej x u, u, hM, hown.same fun k hk => hg.block k (hown.lt k hk).2 (fun h => ?_), ?_, ?_, ?_⟩
  · cases h; have := (hown.lt _ hk).1; omega
  · unfold looked; rw [h4, mget_last _ _ _ hne]; rfl
  · intro u'; rw [h4, mput_last _ _ _ _ hne]
  · intro _; exact h4 u

/-- forestOf has made its map. -/
def GivesForest (l : List Topic) (w : World) (e : Ending) (w' : World) : Prop := ∃ b, e = .returned (.map (some b)) ∧ FMap w' b l l.length ∧ Below w.heap.size w w'

set_option maxRecDepth 100000 in
set_option maxHeartbeats 4000000 in
theorem forestOf_any (l : List Topic) (a : Option Addr) (cap : Nat) (w : World) (hl : SA w a l) (hlen : l.length ≤ 1000000) (hr : RightF l) :
    Calls Tryz.prog 64 #[.slice a l.length cap] w (GivesForest l w) := by
  have hmm := @run_makeMap Tryz.prog
  go_enter Tryz.func64, Tryz.ntmps64
  go_wp2_with fail
  go_loopg [13] l.length (fun gk i wr => ∃ k : Nat, i = .int .i64 k ∧ k ≤ l.length ∧ Hid (gk = l.length - k) ∧ MBox wr w.heap.size (upList (l.take k)) ∧ Below w.heap.size w wr)
  case atStart => exact ⟨0, rfl, by omega, rfl, MBox.new w, by (repeat' (first | exact Below.refl _ _ | assumption | refine Below.setCell ?_ ?_ _ | refine below_drewN ?_ _ | refine Below.drew ?_ | refine Below.alloc ?_ ?_ _ | (with_reducible refine Below.trans ?_ (Below.mono hb ?_)) | (with_reducible refine Below.trans ?_ (Below.mono hb0 ?_)) | (with_reducible refine Below.trans ?_ (Below.mono hb1 ?_)) | (with_reducible refine Below.trans ?_ (Below.mono hb2 ?_)) | (with_reducible refine Below.trans ?_ (Below.mono hb3 ?_)) | (with_reducible refine Below.trans ?_ (Below.mono hb4 ?_)) | (with_reducible refine Below.trans ?_ (Below.mono hb5 ?_)) | (with_reducible refine Below.trans ?_ (Below.mono hb6 ?_)) | (with_reducible refine Below.trans ?_ (Below.mono hb7 ?_)) | (with_reducible refine Below.trans ?_ (Below.mono hb8 ?_)) | (with_reducible refine Below.trans ?_ (Below.mono hb9 ?_)) | (with_reducible refine Below.trans ?_ (Below.mono hb10 ?_)) | (with_reducible refine Below.trans ?_ (Below.mono hb11 ?_)) | (with_reducible refine Below.trans ?_ (Below.mono hb12 ?_)) | (with_reducible refine Below.trans ?_ (Below.mono hb13 ?_)) | (with_reducible refine Below.trans ?_ (Below.mono hb14 ?_)) | (with_reducible refine Below.trans ?_ (Below.mono hb15 ?_)) | omega | (simp; done) | (simp; omega)))⟩
  case round =>
    clear hmm
    obtain ⟨k, rfl, hk, hgk, hM, hb⟩ := hrel
    have hz := hb.size
    by_cases hlt : k < l.length
    · obtain ⟨b, off, ha, c0, c1⟩ := (hl.below hb).topic hlt
      have HU := Lib.hid (mput_upList hr.once hlt)
      rw [ha]
      generalize l[k].1 = x1 at *
      generalize l[k].2 = x2 at *
      go_wp2_with (at_mapUpdate; refine wpList_mapUpdate_box rfl _ _ _ 153 rfl 9 9 Tryz.underlying153 Tryz.underlying9 w.heap.size _ rfl (hM.alloc _) x1 rfl (.string x2) rfl ?_; intro w2 hM2 hg2 hs2)
      rw [← ha]
      go_roundg (l.length - (k + 1))
      case measure => have := hgk.out; omega
      case rel =>
        rw [HU.out] at hM2
        exact ⟨k + 1, by go_num, by omega, rfl, hM2, Below.grown (w := wr.alloc _) (by (repeat' (first | exact Below.refl _ _ | assumption | refine Below.setCell ?_ ?_ _ | refine below_drewN ?_ _ | refine Below.drew ?_ | refine Below.alloc ?_ ?_ _ | (with_reducible refine Below.trans ?_ (Below.mono hb ?_)) | (with_reducible refine Below.trans ?_ (Below.mono hb0 ?_)) | (with_reducible refine Below.trans ?_ (Below.mono hb1 ?_)) | (with_reducible refine Below.trans ?_ (Below.mono hb2 ?_)) | (with_reducible refine Below.trans ?_ (Below.mono hb3 ?_)) | (with_reducible refine Below.trans ?_ (Below.mono hb4 ?_)) | (with_reducible refine Below.trans ?_ (Below.mono hb5 ?_)) | (with_reducible refine Below.trans ?_ (Below.mono hb6 ?_)) | (with_reducible refine Below.trans ?_ (Below.mono hb7 ?_)) | (with_reducible refine Below.trans ?_ (Below.mono hb8 ?_)) | (with_reducible refine Below.trans ?_ (Below.mono hb9 ?_)) | (with_reducible refine Below.trans ?_ (Below.mono hb10 ?_)) | (with_reducible refine Below.trans ?_ (Below.mono hb11 ?_)) | (with_reducible refine Below.trans ?_ (Below.mono hb12 ?_)) | (with_reducible refine Below.trans ?_ (Below.mono hb13 ?_)) | (with_reducible refine Below.trans ?_ (Below.mono hb14 ?_)) | (with_reducible refine Below.trans ?_ (Below.mono hb15 ?_)) | omega | (simp; done) | (simp; omega)))) hg2 (by simp; omega) (by rintro j hj; cases hj; exact Nat.le_refl _)⟩
    · obtain rfl : k = l.length := by omega
      rw [List.take_length] at hM
      have hmm := @run_makeMap Tryz.prog
      obtain ⟨wo, rfl⟩ : ∃ wo : World, wo = wr := ⟨_, rfl⟩
      clear hgk hlt hk
      go_wp2_with fail
      go_loopg [9, 26] l.length (fun gk s i wr => ∃ k : Nat, i = .int .i64 k ∧ k ≤ l.length ∧ Hid (gk = l.length - k) ∧ MBox wr w.heap.size (upList l) ∧ FMap wr wo.heap.size l k ∧ Below w.heap.size w wr ∧ wo.heap.size < wr.heap.size)
      case atStart => exact ⟨0, rfl, by omega, rfl, hM.alloc _, ⟨[], MBox.new wo, rfl, by simp⟩, by (repeat' (first | exact Below.refl _ _ | assumption | refine Below.setCell ?_ ?_ _ | refine below_drewN ?_ _ | refine Below.drew ?_ | refine Below.alloc ?_ ?_ _ | (with_reducible refine Below.trans ?_ (Below.mono hb ?_)) | (with_reducible refine Below.trans ?_ (Below.mono hb0 ?_)) | (with_reducible refine Below.trans ?_ (Below.mono hb1 ?_)) | (with_reducible refine Below.trans ?_ (Below.mono hb2 ?_)) | (with_reducible refine Below.trans ?_ (Below.mono hb3 ?_)) | (with_reducible refine Below.trans ?_ (Below.mono hb4 ?_)) | (with_reducible refine Below.trans ?_ (Below.mono hb5 ?_)) | (with_reducible refine Below.trans ?_ (Below.mono hb6 ?_)) | (with_reducible refine Below.trans ?_ (Below.mono hb7 ?_)) | (with_reducible refine Below.trans ?_ (Below.mono hb8 ?_)) | (with_reducible refine Below.trans ?_ (Below.mono hb9 ?_)) | (with_reducible refine Below.trans ?_ (Below.mono hb10 ?_)) | (with_reducible refine Below.trans ?_ (Below.mono hb11 ?_)) | (with_reducible refine Below.trans ?_ (Below.mono hb12 ?_)) | (with_reducible refine Below.trans ?_ (Below.mono hb13 ?_)) | (with_reducible refine Below.trans ?_ (Below.mono hb14 ?_)) | (with_reducible refine Below.trans ?_ (Below.mono hb15 ?_)) | omega | (simp; done) | (simp; omega))), by simp⟩
      case round =>
        have hUO := hM.lt
        clear hmm hM hb
        obtain ⟨k, rfl, hk, hgk, hM, hF, hb, hbO⟩ := hrel
        have hz' := hb.size
        by_cases hlt : k < l.length
        · obtain ⟨b, off, ha, c0, c1⟩ := (hl.below hb).topic hlt
          obtain ⟨m, hm1, hm2, hm3, hm4⟩ := hr.way (List.getElem_mem hlt)
          have hT := Box.new wr 80 #[.string l[k].1, .string l[k].2]
          obtain ⟨es, hE1, hE2, hE3⟩ := hF
          have hne : ∀ p ∈ es, p.1 ≠ l[k].1 := fun p hp he => by
            have : p.1 ∈ (l.take k).map (·.1) := hE2 ▸ List.mem_map_of_mem hp
            obtain ⟨t, ht, h2⟩ := List.mem_map.1 this
            exact once_take hr.once hlt t ht (h2.trans he)
          have hfin : es.map (·.1) ++ [l[k].1] = (l.take (k + 1)).map (·.1) := by rw [hE2, List.take_succ_eq_append_getElem hlt, List.map_append]; rfl
          have Hfin := Lib.hid hfin
          have Hx0 := Lib.hid (hr.keys l[k] (List.getElem_mem hlt))
          have HE3 := Lib.hid hE3
          have Hne := Lib.hid hne
          have Hm := Lib.hid (And.intro hm2 (And.intro hm3 hm4))
          clear hm2 hm3 hm4 hE2 hE3 hne hfin
          rw [ha]
          generalize l[k].1 = x1 at *
          generalize l[k].2 = x2 at *
          go_wp2_with fail
          obtain ⟨wq, hwq⟩ : ∃ wq : World, wq = wr.alloc (.cells #[.string x1, .string x2] 80) := ⟨_, rfl⟩
          rw [← hwq]
          rw [← hwq] at hT
          have hq1 : Stp wo.heap.size wr wq := by rw [hwq]; exact (Stp.refl _ _).alloc _
          have hqM : MBox wq w.heap.size (upList l) := hM.stp hq1 (by omega)
          have hqE : MBox wq wo.heap.size es := by rw [hwq]; exact hE1.alloc _
          have hqs : wq.heap.size = wr.heap.size + 1 := by rw [hwq]; simp
          have Hqs := Lib.hid hqs
          have hqB : Below wr.heap.size wr wq := by rw [hwq]; (repeat' (first | exact Below.refl _ _ | assumption | refine Below.setCell ?_ ?_ _ | refine below_drewN ?_ _ | refine Below.drew ?_ | refine Below.alloc ?_ ?_ _ | (with_reducible refine Below.trans ?_ (Below.mono hb ?_)) | (with_reducible refine Below.trans ?_ (Below.mono hb0 ?_)) | (with_reducible refine Below.trans ?_ (Below.mono hb1 ?_)) | (with_reducible refine Below.trans ?_ (Below.mono hb2 ?_)) | (with_reducible refine Below.trans ?_ (Below.mono hb3 ?_)) | (with_reducible refine Below.trans ?_ (Below.mono hb4 ?_)) | (with_reducible refine Below.trans ?_ (Below.mono hb5 ?_)) | (with_reducible refine Below.trans ?_ (Below.mono hb6 ?_)) | (with_reducible refine Below.trans ?_ (Below.mono hb7 ?_)) | (with_reducible refine Below.trans ?_ (Below.mono hb8 ?_)) | (with_reducible refine Below.trans ?_ (Below.mono hb9 ?_)) | (with_reducible refine Below.trans ?_ (Below.mono hb10 ?_)) | (with_reducible refine Below.trans ?_ (Below.mono hb11 ?_)) | (with_reducible refine Below.trans ?_ (Below.mono hb12 ?_)) | (with_reducible refine Below.trans ?_ (Below.mono hb13 ?_)) | (with_reducible refine Below.trans ?_ (Below.mono hb14 ?_)) | (with_reducible refine Below.trans ?_ (Below.mono hb15 ?_)) | omega | (simp; done) | (simp; omega)))
          clear hwq hqs hM hE1 c0 c1
          obtain ⟨wp, rfl⟩ : ∃ wp : World, wp = wr := ⟨_, rfl⟩
          go_loopg [9] m (fun gk s wi => ∃ j : Nat, s = .string (ForestPure.iterUp e0 l j x1) ∧ j ≤ m ∧ Hid (gk = m - j) ∧ Stp wo.heap.size wq wi ∧ Grows wi wo.heap.size wq.heap.size es x1 ((List.range j).map (fun i => ForestPure.iterUp e0 l i x1)))
          case atStart => exact ⟨0, rfl, by omega, rfl, Stp.refl _ _, es, .slice none 0 0, hqE, Own.nil _ _ _, by unfold looked; rw [mget_new _ _ Hne.out]; rfl, fun u => mput_new _ _ _ Hne.out, by simp⟩
          case round =>
            obtain ⟨j, rfl, hj, hgj, hS, hG⟩ := hrel
            by_cases hjm : j < m
            · have hnz := Hm.out.2.1 j hjm
              have hq2 : (ForestPure.iterUp e0 l j x1).toList ≠ [] := fun h => hnz (toList_empty.1 (List.isEmpty_iff.2 h))
              have hq3 : (ForestPure.iterUp e0 l j x1).toList.isEmpty = false := by simpa using hq2
              have hnext : ForestPure.iterUp e0 l (j + 1) x1 = ForestPure.upOf e0 l (ForestPure.iterUp e0 l j x1) := ForestPure.iterUp_succ' e0 l j x1
              have hrng : (List.range (j + 1)).map (fun i => ForestPure.iterUp e0 l i x1) = (List.range j).map (fun i => ForestPure.iterUp e0 l i x1) ++ [ForestPure.iterUp e0 l j x1] := by rw [List.range_succ, List.map_append]; rfl
              have Hnext := Lib.hid hnext
              have Hrng := Lib.hid hrng
              have hacl : ((List.range j).map (fun i => ForestPure.iterUp e0 l i x1)).length = j := by simp
              have Hacl := Lib.hid hacl
              clear hnz hnext hrng hacl
              generalize (List.range j).map (fun i => ForestPure.iterUp e0 l i x1) = acc at *
              generalize ForestPure.iterUp e0 l j x1 = kj at *
              obtain ⟨ej, v, hG1, hG2, hG3, hG4, hG5⟩ := hG
              have hTi := hT.stp hS (by omega)
              have hMi := hqM.stp hS (by omega)
              have hl1 : (Instr.lookup 109 (.map (some wo.heap.size)) (.string x1) false).run Tryz.prog wr.drew = .ok v wr.drew := by
                rw [← hG3]; exact MBox.look hG1.drew Tryz.underlying109 Tryz.underlying9 _ Tryz.zeroStrings x1 false
              have hl2 : ∀ o, (Instr.lookup 109 (.map (some wo.heap.size)) (.string x1) false).run Tryz.prog (wr.alloc o).drew = .ok v (wr.alloc o).drew := fun o => by
                rw [← hG3]; exact MBox.look (hG1.alloc o).drew Tryz.underlying109 Tryz.underlying9 _ Tryz.zeroStrings x1 false
              have HG4 := Lib.hid hG4
              have HG5 := Lib.hid hG5
              have hqs := Hqs.out
              have hSz := hS.size
              have hown2 := (hG2.alloc (.cells #[.string kj] 9)).drew
              have hvb : v.ownBlock ≠ some wo.heap.size := fun h => by have := (hG2.lt _ h).1; omega
              have hvT : v.ownBlock ≠ some wp.heap.size := fun h => by have := (hG2.lt _ h).1; omega
              clear hG3 hG4 hG5
              have hTi_l := hTi.lt; have hTi_0 := hTi.cell 0; have hTi_1 := hTi.cell 1; simp at hTi_0 hTi_1
              go_wp2_with fail
              go_region_held3 (fun wx => wx.cell? ⟨wp.heap.size, 0, none⟩ = some (.string x1)) (first | (go_simp; done) | (rw [World.grownBy.cell_far hgrow _ (by simp; omega) (Ne.symm hvT)]; go_simp; done) | (rw [World.grownBy.cell_far hg2 _ (by have := hgrow.size; simp at this; simp; omega) (by simp; omega)]; rw [World.grownBy.cell_far hgrow _ (by simp; omega) (Ne.symm hvT)]; go_simp; done)) (first | (refine step_append_one (by rfl) _ _ 52 (by rfl) 9 16 (.string ⟨#[]⟩) Tryz.underlying52 Tryz.infoString (by rfl) v acc (by rfl) hown2 kj wr.heap.size (by rfl) (Box.drew (Box.new wr 9 #[.string kj])) (by have := Hacl.out; omega) (by have := Hacl.out; omega) (by simp; omega) ?_; intro gg cap1 w1 hown1 hgrow; obtain ⟨w2, hrun2, hM2, hg2, hs2⟩ := MBox.store (P := Tryz.prog) (((hG1.alloc _).drew).grown hgrow (Ne.symm hvb)) Tryz.underlying109 Tryz.underlying9 x1 (.slice (some ⟨gg, 0, none⟩) (acc.length + 1) cap1)))
              all_goals
                have hSt : Stp wo.heap.size wq w2 := ((hS.alloc _).drew.grown hgrow (fun k hk => .inr (hG2.lt k hk).1)).grown hg2 (fun k hk => by cases hk; exact .inl rfl)
                have hGr : Grows w2 wo.heap.size wq.heap.size es x1 (acc ++ [kj]) := Grows.step (wi := wr) hown1 HG4.out Hne.out (by omega) hM2 hg2
                have hl3 : (Instr.lookup 153 (.map (some w.heap.size)) (.string kj) false).run Tryz.prog w2 = .ok (.string (ForestPure.upOf e0 l kj)) w2 := by
                  rw [← looked_up]; exact MBox.look (hqM.stp hSt (by omega)) Tryz.underlying153 Tryz.underlying9 _ Tryz.zeroString kj false
                go_wp2_with fail
                go_roundg (m - (j + 1))
                case measure => have := hgj.out; omega
                case rel => exact ⟨j + 1, by rw [Hnext.out], by omega, rfl, hSt, by rw [Hrng.out]; exact hGr⟩
            · obtain rfl : j = m := by omega
              have hk0 : ForestPure.iterUp e0 l j x1 = e0 := Hm.out.1
              have hk1 : (ForestPure.iterUp e0 l j x1).toList = [] := by rw [hk0]; exact List.isEmpty_iff.1 (toList_empty.2 rfl)
              have hacc : (List.range j).map (fun i => ForestPure.iterUp e0 l i x1) = ForestPure.aboveN l (l.length + 1) x1 := Hm.out.2.2.symm
              rw [hacc] at hG
              have hne0 : ForestPure.aboveN l (l.length + 1) x1 ≠ [] := by
                rw [← hacc]
                intro h
                have : j = 0 := by simpa using h
                subst this
                exact Hx0.out hk0
              obtain ⟨ej, v, hG1, hG2, hG3, hG4, hG5⟩ := hG
              have hej := hG5 hne0
              clear hacc hne0 hG3 hG4 hG5 hk0
              generalize ForestPure.iterUp e0 l j x1 = kj at *
              go_wp2_with fail
              rw [← ha]
              go_roundg (l.length - (k + 1))
              case measure => have := hgk.out; omega
              case rel =>
                have hqs := Hqs.out
                have hSz := hS.size
                refine ⟨k + 1, by go_num, by omega, rfl, hqM.stp hS (by omega), ⟨ej, hG1, ?_, ?_⟩, ?_, by omega⟩
                · rw [hej, List.map_append]; exact Hfin.out
                · intro p hp
                  rw [hej] at hp
                  rcases List.mem_append.1 hp with hp | hp
                  · exact ((HE3.out p hp).below hqB).stpMap hqE hS
                  · obtain rfl : p = (x1, v) := by simpa using hp
                    exact hG2.rds
                · exact (hb.trans (hqB.mono hz')).trans (Below.of_stp hS (by omega) (by omega))
        · obtain rfl : k = l.length := by omega
          clear hgk
          go_wp2_with fail
          go_ret
          exact ⟨_, rfl, hF, hb⟩
end Go.Proofs.YtpgofjjcmldhpaaGreatDoor

/-! What a forest without faults is; CheckForest of the program. -/
namespace Go.Proofs.YtpgofjjcmldhpaaGreatDoor
open Go.RowKit
set_option linter.unusedVariables false

theorem bl_eq : ∀ (x y : List UInt8), Op.bytesLess x y = decide (x < y)
  | _, [] => by simp [Op.bytesLess]
  | [], _ :: _ => by simp [Op.bytesLess]
  | a :: x, b :: y => by
    rw [Op.bytesLess, bl_eq x y, Bool.eq_iff_iff]
    simp [List.cons_lt_cons_iff]
theorem bl_trans {x y z : List UInt8} (h : Op.bytesLess x y = true) (k : Op.bytesLess y z = true) : Op.bytesLess x z = true := by
  rw [bl_eq, decide_eq_true_eq] at *
  exact List.lt_trans h k
theorem bl_irrefl (x : List UInt8) : Op.bytesLess x x = false := by
  rw [bl_eq, decide_eq_false_iff_not]; exact List.lt_irrefl x
theorem bl_total {x y : List UInt8} (h : (Op.bytesLess x y || x == y) = false) : Op.bytesLess y x = true := by
  rw [bl_eq] at *
  rw [Bool.or_eq_false_iff, decide_eq_false_iff_not, beq_eq_false_iff_ne] at h
  rw [decide_eq_true_eq]
  have h1 : y ≤ x := List.not_lt.1 h.1
  exact Std.lt_of_le_of_ne h1 (Ne.symm h.2)

theorem f1_zero {l : List Topic} {i : Nat} (hi : i < l.length) (h : f1 l i = 0) : nameBad l[i] = false ∧ (∀ j, (hj : i = j + 1) → leB l[i].1 (l[j]'(by omega)).1 = false) := by
  unfold f1 at h
  rw [List.getElem?_eq_getElem hi] at h
  simp only at h
  cases hb : nameBad l[i]
  · refine ⟨rfl, fun j hj => ?_⟩
    rw [hb] at h
    subst hj
    simp only [Bool.false_eq_true, if_false] at h
    cases hl : leB l[j + 1].1 (l[j]'(by omega)).1
    · rfl
    · exfalso
      rw [Nat.add_sub_cancel, List.getD_eq_getElem?_getD, List.getElem?_eq_getElem (show j < l.length by omega)] at h
      simp [hl] at h
  · rw [hb] at h; simp at h

/-- The keys rise. -/
theorem rises {l : List Topic} {n : Nat} (h : ∀ j, j < n → f1 l j = 0) (hn : n ≤ l.length) (i k : Nat) (hik : i < k) (hk : k < n) : Op.bytesLess (l[i]'(by omega)).1.toList (l[k]'(by omega)).1.toList = true := by
  induction k with
  | zero => omega
  | succ k ih =>
    have h1 := (f1_zero (show k + 1 < l.length by omega) (h (k + 1) hk)).2 k rfl
    have h2 := bl_total h1
    by_cases e : i = k
    · subst e; exact h2
    · exact bl_trans (ih (by omega) (by omega)) h2

theorem rises_ne {l : List Topic} {n : Nat} (h : ∀ j, j < n → f1 l j = 0) (hn : n ≤ l.length) (i k : Nat) (hik : i < k) (hk : k < n) : (l[i]'(by omega)).1 ≠ (l[k]'(by omega)).1 := fun e => by
  have := rises h hn i k hik hk
  rw [e, bl_irrefl] at this
  cases this

theorem rises_take {l : List Topic} {k : Nat} (h : ∀ j, j < k + 1 → f1 l j = 0) (hk : k < l.length) : ∀ t ∈ l.take k, t.1 ≠ l[k].1 := by
  intro t ht
  obtain ⟨i, hi, rfl⟩ := List.mem_take_iff_getElem.1 ht
  exact rises_ne h (by omega) i k (by omega) (by omega)

theorem f1_once {l : List Topic} (h : ∀ j, j < l.length → f1 l j = 0) : ForestPure.Once l := by
  unfold ForestPure.Once
  rw [List.nodup_iff_pairwise_ne, List.pairwise_iff_getElem]
  intro i j hi hj hij
  simp at hi hj ⊢
  exact rises_ne h (Nat.le_refl _) i j hij hj

theorem f1_keys {l : List Topic} (h : ∀ j, j < l.length → f1 l j = 0) : ∀ t ∈ l, t.1 ≠ e0 := by
  intro t ht he
  obtain ⟨i, hi, rfl⟩ := List.mem_iff_getElem.1 ht
  have := (f1_zero hi (h i hi)).1
  unfold nameBad at this
  rw [he] at this
  have hk : keyB e0 = false := by decide
  simp [hk] at this

theorem f2_closed {l : List Topic} (h : ∀ j, j < l.length → f2 l j = 0) : ForestPure.Closed e0 l := by
  intro t ht
  obtain ⟨i, hi, rfl⟩ := List.mem_iff_getElem.1 ht
  have h1 := h i hi
  unfold f2 at h1
  rw [List.getElem?_eq_getElem hi] at h1
  by_cases he : l[i].2 = e0
  · exact .inl he
  · right
    have hq : l[i].2.toList.isEmpty = false := by
      cases hh : l[i].2.toList.isEmpty
      · rfl
      · exact absurd (toList_empty.1 hh) he
    cases ho : ForestPure.topicOf l l[i].2 with
    | none => simp [hq, ho] at h1
    | some t => exact ⟨t, (ForestPure.topicOf_some ho).1, (ForestPure.topicOf_some ho).2⟩

/-- The third loop, as the program asks. -/
theorem f3_iter {l : List Topic} (hk : ∀ t ∈ l, t.1 ≠ e0) (ho : ForestPure.Once l) {i : Nat} (hi : i < l.length) :
    (∃ j, j < l.length ∧ ForestPure.iterUp e0 l j l[i].2 = l[i].1) ↔ f3 l i = 14 := by
  unfold f3
  rw [List.getElem?_eq_getElem hi]
  have ht : ForestPure.topicOf l l[i].1 = some l[i] := ForestPure.topicOf_mem ho (List.getElem_mem hi)
  have h1 : (ForestPure.aboveN l (l.length + 1) l[i].1).tail = ForestPure.aboveN l l.length l[i].2 := by
    rw [ForestPure.aboveN, ht]; rfl
  simp only [h1]
  rw [← ForestPure.mem_aboveN hk ⟨l[i], List.getElem_mem hi, rfl⟩]
  constructor
  · intro h
    rw [if_pos]
    exact List.any_eq_true.2 ⟨_, h, by simp⟩
  · intro h
    by_cases hh : (ForestPure.aboveN l l.length l[i].2).any (fun y => decide (y = l[i].1)) = true
    · obtain ⟨y, hy, he⟩ := List.any_eq_true.1 hh
      have : y = l[i].1 := by simpa using he
      rwa [← this]
    · rw [if_neg hh] at h; cases h

theorem f3_or (l : List Topic) (i : Nat) : f3 l i = 0 ∨ f3 l i = 14 := by
  unfold f3; split
  · exact .inl rfl
  · split
    · exact .inr rfl
    · exact .inl rfl

theorem f3_noLoop {l : List Topic} (hk : ∀ t ∈ l, t.1 ≠ e0) (ho : ForestPure.Once l) (h : ∀ j, j < l.length → f3 l j = 0) : ForestPure.NoLoop e0 l := by
  intro t ht j hj he
  obtain ⟨i, hi, rfl⟩ := List.mem_iff_getElem.1 ht
  have := (f3_iter hk ho hi).1 ⟨j, hj, he⟩
  rw [h i hi] at this
  cases this

theorem rightF_of {l : List Topic} (h1 : ∀ j, j < l.length → f1 l j = 0) (h2 : ∀ j, j < l.length → f2 l j = 0) (h3 : ∀ j, j < l.length → f3 l j = 0) : RightF l :=
  ⟨f1_keys h1, f1_once h1, f2_closed h2, f3_noLoop (f1_keys h1) (f1_once h1) h3⟩

theorem firstErr_zeros {f : Nat → Int} {n : Nat} (h : firstErr f n = 0) : ∀ j, j < n → f j = 0 := by
  induction n with
  | zero => intro j hj; omega
  | succ n ih =>
    rw [firstErr] at h
    by_cases hz : firstErr f n = 0
    · simp [hz] at h
      exact zeros_succ (ih hz) h
    · simp [hz] at h

theorem fault_zero {l : List Topic} (h : forestFault l = 0) : l.length ≤ 100 ∧ RightF l ∧ (∀ j, j < l.length → f4 l j = 0) := by
  unfold forestFault at h
  by_cases h100 : 100 < l.length
  · simp [h100] at h
  · simp only [h100, if_false, firstOf] at h
    by_cases g1 : firstErr (f1 l) l.length = 0
    · by_cases g2 : firstErr (f2 l) l.length = 0
      · by_cases g3 : firstErr (f3 l) l.length = 0
        · by_cases g4 : firstErr (f4 l) l.length = 0
          · exact ⟨by omega, rightF_of (firstErr_zeros g1) (firstErr_zeros g2) (firstErr_zeros g3), firstErr_zeros g4⟩
          · simp [g1, g2, g3, g4] at h
        · simp [g1, g2, g3] at h
      · simp [g1, g2] at h
    · simp [g1] at h
end Go.Proofs.YtpgofjjcmldhpaaGreatDoor

/-! CheckForest of the program gives the same error. -/
namespace Go.Proofs.YtpgofjjcmldhpaaGreatDoor
open Go.RowKit
set_option linter.unusedVariables false

/-- A plain value is returned; the world may have grown. -/
theorem isKey_no (s : ByteArray) (w : World) (hs : s.size ≤ 1000000) (h : keyB s = false) : Calls Tryz.prog 54 #[.string s] w (fun e w' => e = .returned (.bool false) ∧ w = w') := by
  have := isKey_any s w (by omega); rwa [h] at this
theorem isKey_yes (s : ByteArray) (w : World) (hs : s.size ≤ 1000000) (h : keyB s = true) : Calls Tryz.prog 54 #[.string s] w (fun e w' => e = .returned (.bool true) ∧ w = w') := by
  have := isKey_any s w (by omega); rwa [h] at this

theorem firstErr_const {f : Nat → Int} {n : Nat} (c : Int) (hc : c ≠ 0) (hf : ∀ j, f j = 0 ∨ f j = c) (h : ∃ i, i < n ∧ f i = c) : firstErr f n = c := by
  by_cases hz : firstErr f n = 0
  · obtain ⟨i, hi, he⟩ := h
    rw [firstErr_zeros hz i hi] at he
    exact absurd he.symm hc
  · have : ∀ m, firstErr f m = 0 ∨ firstErr f m = c := fun m => by
      induction m with
      | zero => exact .inl rfl
      | succ m ih =>
        rw [firstErr]
        rcases ih with h1 | h1
        · simp [h1]; exact hf m
        · right; simp [h1, hc]
    exact (this n).resolve_left hz

theorem f4_or (l : List Topic) (i : Nat) : f4 l i = 0 ∨ f4 l i = 2 := by
  unfold f4; split
  · exact .inl rfl
  · split
    · exact .inr rfl
    · exact .inl rfl

set_option maxRecDepth 100000 in
set_option maxHeartbeats 8000000 in
theorem checkForest_any (l : List Topic) (a : Option Addr) (cap : Nat) (w : World) (hl : SA w a l) (hlen : l.length ≤ 1000000) (hsm : SmallT l) :
    Calls Tryz.prog 62 #[.slice a l.length cap] w (Gives (.int .i64 (forestFault l)) w) := by
  by_cases h100 : 100 < l.length
  · have hv : forestFault l = 2 := by simp [forestFault, h100]
    rw [hv]
    go_enter Tryz.func62, Tryz.ntmps62
    go_wp2_with fail
    go_ret
    exact ⟨rfl, Below.refl _ _⟩
  · have hv : forestFault l = firstOf [firstErr (f1 l) l.length, firstErr (f2 l) l.length, firstErr (f3 l) l.length, firstErr (f4 l) l.length] := by simp [forestFault, h100]
    have Hv := Lib.hid hv
    clear hv
    have hmm := @run_makeMap Tryz.prog
    go_enter Tryz.func62, Tryz.ntmps62
    go_wp2_with fail
    go_loopg [21] l.length (fun gk i wr => ∃ k : Nat, i = .int .i64 k ∧ k ≤ l.length ∧ Hid (gk = l.length - k) ∧ Hid (∀ j, j < k → f1 l j = 0) ∧ MBox wr w.heap.size (upList (l.take k)) ∧ Below w.heap.size w wr)
    case atStart => exact ⟨0, rfl, by omega, rfl, fun j hj => by omega, MBox.new w, by (repeat' (first | exact Below.refl _ _ | assumption | refine Below.setCell ?_ ?_ _ | refine below_drewN ?_ _ | refine Below.drew ?_ | refine Below.alloc ?_ ?_ _ | (with_reducible refine Below.trans ?_ (Below.mono hb ?_)) | (with_reducible refine Below.trans ?_ (Below.mono hb0 ?_)) | (with_reducible refine Below.trans ?_ (Below.mono hb1 ?_)) | (with_reducible refine Below.trans ?_ (Below.mono hb2 ?_)) | (with_reducible refine Below.trans ?_ (Below.mono hb3 ?_)) | (with_reducible refine Below.trans ?_ (Below.mono hb4 ?_)) | (with_reducible refine Below.trans ?_ (Below.mono hb5 ?_)) | (with_reducible refine Below.trans ?_ (Below.mono hb6 ?_)) | (with_reducible refine Below.trans ?_ (Below.mono hb7 ?_)) | (with_reducible refine Below.trans ?_ (Below.mono hb8 ?_)) | (with_reducible refine Below.trans ?_ (Below.mono hb9 ?_)) | (with_reducible refine Below.trans ?_ (Below.mono hb10 ?_)) | (with_reducible refine Below.trans ?_ (Below.mono hb11 ?_)) | (with_reducible refine Below.trans ?_ (Below.mono hb12 ?_)) | (with_reducible refine Below.trans ?_ (Below.mono hb13 ?_)) | (with_reducible refine Below.trans ?_ (Below.mono hb14 ?_)) | (with_reducible refine Below.trans ?_ (Below.mono hb15 ?_)) | omega | (simp; done) | (simp; omega)))⟩
    case round =>
      clear hmm
      obtain ⟨k, rfl, hk, hgk, hf, hM, hb⟩ := hrel
      by_cases hlt : k < l.length
      · obtain ⟨b, off, ha, c0, c1⟩ := (hl.below hb).topic hlt
        obtain ⟨hs1, hs2⟩ := hsm l[k] (List.getElem_mem hlt)
        have hf1 : f1 l k = if nameBad l[k] then 5 else if decide (0 < k) && leB l[k].1 (l.getD (k - 1) (⟨#[]⟩, ⟨#[]⟩)).1 then 7 else 0 := by
          unfold f1; rw [List.getElem?_eq_getElem hlt]
        have Hf1 := Lib.hid hf1
        have hMU : f1 l k = 0 → mput (upList (l.take k)) l[k].1 (.string l[k].2) = upList (l.take (k + 1)) := fun h0 => by
          rw [mput_new, List.take_succ_eq_append_getElem hlt]
          · unfold upList; rw [List.map_append]; rfl
          · intro p hp
            obtain ⟨t, ht, rfl⟩ := List.mem_map.1 hp
            exact rises_take (zeros_succ hf.out h0) hlt t ht
        have HMU := Lib.hid hMU
        clear hf1 hMU
        rw [ha]
        generalize hx : l[k] = x at *
        obtain ⟨x1, x2⟩ := x
        clear hx
        simp only at c0 c1 hs1 hs2
        have hz := hb.size
        have hbr : Below w.heap.size w (wr.alloc (.cells #[.string x1, .string x2] 80)) := by (repeat' (first | exact Below.refl _ _ | assumption | refine Below.setCell ?_ ?_ _ | refine below_drewN ?_ _ | refine Below.drew ?_ | refine Below.alloc ?_ ?_ _ | (with_reducible refine Below.trans ?_ (Below.mono hb ?_)) | (with_reducible refine Below.trans ?_ (Below.mono hb0 ?_)) | (with_reducible refine Below.trans ?_ (Below.mono hb1 ?_)) | (with_reducible refine Below.trans ?_ (Below.mono hb2 ?_)) | (with_reducible refine Below.trans ?_ (Below.mono hb3 ?_)) | (with_reducible refine Below.trans ?_ (Below.mono hb4 ?_)) | (with_reducible refine Below.trans ?_ (Below.mono hb5 ?_)) | (with_reducible refine Below.trans ?_ (Below.mono hb6 ?_)) | (with_reducible refine Below.trans ?_ (Below.mono hb7 ?_)) | (with_reducible refine Below.trans ?_ (Below.mono hb8 ?_)) | (with_reducible refine Below.trans ?_ (Below.mono hb9 ?_)) | (with_reducible refine Below.trans ?_ (Below.mono hb10 ?_)) | (with_reducible refine Below.trans ?_ (Below.mono hb11 ?_)) | (with_reducible refine Below.trans ?_ (Below.mono hb12 ?_)) | (with_reducible refine Below.trans ?_ (Below.mono hb13 ?_)) | (with_reducible refine Below.trans ?_ (Below.mono hb14 ?_)) | (with_reducible refine Below.trans ?_ (Below.mono hb15 ?_)) | omega | (simp; done) | (simp; omega)))
        go_upto_region 7 with (fail)
        go_cut [40] (fun s wx => s = .bool (nameBad (x1, x2)) ∧ wx = wr.alloc (.cells #[.string x1, .string x2] 80))
        case first =>
          cases h1 : keyB x1
          · have Hnb := Lib.hid (show nameBad (x1, x2) = true by simp [nameBad, h1])
            have H1 := Lib.hid h1
            clear h1
            go_wp2_with fail
            refine (isKey_no x1 _ hs1 H1.out).mono ?_
            rintro e w1 ⟨rfl, rfl⟩
            go_wp2_with fail
            go_meet
            exact ⟨by rw [Hnb.out], rfl⟩
          · have H1 := Lib.hid h1
            by_cases he : x2 = ⟨#[]⟩
            · have Hnb := Lib.hid (show nameBad (x1, x2) = false by simp [nameBad, h1, toList_empty.2 he])
              have hq1 : x2.toList = [] := List.isEmpty_iff.1 (toList_empty.2 he)
              clear h1 he
              go_wp2_with fail
              refine (isKey_yes x1 _ hs1 H1.out).mono ?_
              rintro e w1 ⟨rfl, rfl⟩
              go_wp2_with fail
              go_meet
              exact ⟨by rw [Hnb.out], rfl⟩
            · have hq1 : x2.toList ≠ [] := fun h => he (toList_empty.1 (List.isEmpty_iff.2 h))
              have hq2 : x2.toList.isEmpty = false := by simpa using hq1
              have Hnb := Lib.hid (show nameBad (x1, x2) = !keyB x2 by simp [nameBad, h1, hq2])
              clear h1 he
              go_wp2_with fail
              refine (isKey_yes x1 _ hs1 H1.out).mono ?_
              rintro e w1 ⟨rfl, rfl⟩
              go_wp2_with fail
              refine (isKey_any x2 _ (by omega)).mono ?_
              rintro e w1 ⟨rfl, rfl⟩
              go_wp2_with fail
              go_meet
              exact ⟨by rw [Hnb.out], rfl⟩
        case rest =>
          obtain ⟨hs, hw⟩ := hcut
          rw [hs, hw]
          clear hw hs
          cases hnb : nameBad (x1, x2)
          · by_cases hk0 : k = 0
            · have hz1 : f1 l k = 0 := by rw [Hf1.out, hnb]; simp [hk0]
              have Hz1 := Lib.hid hz1
              have HU := Lib.hid (HMU.out hz1)
              have hd : decide (0 < k) = false := by simp [hk0]
              have hd' : decide ((0 : Int) < (k : Int)) = false := by simp [hk0]
              clear hz1 hk0 hnb
              go_wp2_with fail
              go_quiet (fail)
              go_wp2_with (at_mapUpdate; refine wpList_mapUpdate_box rfl _ _ _ 153 rfl 9 9 Tryz.underlying153 Tryz.underlying9 w.heap.size _ rfl ((hM.alloc _).drewN _) x1 rfl (.string x2) rfl ?_; intro w2 hM2 hg2 hs2)
              rw [← ha]
              go_roundg (l.length - (k + 1))
              case measure => have := hgk.out; omega
              case rel =>
                rw [HU.out] at hM2
                exact ⟨k + 1, by go_num, by omega, rfl, zeros_succ hf.out Hz1.out, hM2, Below.grown (below_drewN hbr _) hg2 (by simp; omega) (by rintro j hj; cases hj; exact Nat.le_refl _)⟩
            · obtain ⟨p, hp⟩ : ∃ p, k = p + 1 := ⟨k - 1, by omega⟩
              have hpl : p < l.length := by omega
              obtain ⟨b', off', ha', d0, d1⟩ := ((hl.below hb).alloc (.cells #[.string x1, .string x2] 80)).topic hpl
              rw [ha] at ha'
              cases ha'
              have hpg : (l.getD (k - 1) (⟨#[]⟩, ⟨#[]⟩)) = l[p] := by rw [hp, Nat.add_sub_cancel, List.getD_eq_getElem?_getD, List.getElem?_eq_getElem hpl]; rfl
              have hz1 : f1 l k = if leB x1 l[p].1 then 7 else 0 := by rw [Hf1.out, hnb, hpg]; simp [hp]
              have Hz1 := Lib.hid hz1
              have hwp : IntKind.i64.wrap ((k : Int) - 1) = (p : Int) := by rw [hp, IntWalk.i64_in _ (by omega)]; omega
              have hk1 : 0 < k := by omega
              have hk2 : (0 : Int) < (k : Int) := by omega
              have hp1 : (0 : Int) ≤ (p : Int) := by omega
              have hp2 : (p : Int) < (l.length : Int) := by omega
              clear hz1 hpg hk0 d1 hnb
              have Hp := Lib.hid hp
              clear hp
              generalize hy : l[p].1 = y at *
              clear hy
              cases hle : leB x1 y
              · have hq : (Op.bytesLess x1.toList y.toList || x1.toList == y.toList) = false := hle
                have hz0 : f1 l k = 0 := by rw [Hz1.out, hle]; rfl
                have Hz0 := Lib.hid hz0
                have HU := Lib.hid (HMU.out hz0)
                clear hz0 hle
                go_wp2_with fail
                go_quiet (fail)
                go_wp2_with (at_mapUpdate; refine wpList_mapUpdate_box rfl _ _ _ 153 rfl 9 9 Tryz.underlying153 Tryz.underlying9 w.heap.size _ rfl ((hM.alloc _).drewN _) x1 rfl (.string x2) rfl ?_; intro w2 hM2 hg2 hs2)
                rw [← ha]
                go_roundg (l.length - (k + 1))
                case measure => have := hgk.out; omega
                case rel =>
                  rw [HU.out] at hM2
                  exact ⟨k + 1, by go_num, by omega, rfl, zeros_succ hf.out Hz0.out, hM2, Below.grown (below_drewN hbr _) hg2 (by simp; omega) (by rintro j hj; cases hj; exact Nat.le_refl _)⟩
              · have hq : (Op.bytesLess x1.toList y.toList || x1.toList == y.toList) = true := hle
                have he : firstErr (f1 l) l.length = 7 := by
                  have h7 : f1 l k = 7 := by rw [Hz1.out, hle]; rfl
                  rw [firstErr_at hlt hf (by rw [h7]; decide), h7]
                have hfin : forestFault l = 7 := by rw [Hv.out, he]; rfl
                have Hfin := Lib.hid hfin
                clear he hfin hle
                go_wp2_with fail
                go_quiet (fail)
                go_wp2_with fail
                go_ret
                exact ⟨by rw [Hfin.out]; rfl, below_drewN hbr _⟩
          · have he : firstErr (f1 l) l.length = 5 := by
              have h5 : f1 l k = 5 := by rw [Hf1.out, hnb]; rfl
              rw [firstErr_at hlt hf (by rw [h5]; decide), h5]
            have hfin : forestFault l = 5 := by rw [Hv.out, he]; rfl
            have Hfin := Lib.hid hfin
            clear he hfin hnb
            go_wp2_with fail
            go_ret
            exact ⟨by rw [Hfin.out]; rfl, hbr⟩
      · obtain rfl : k = l.length := by omega
        rw [List.take_length] at hM
        have hZ1 := hf.out
        have hE1 : firstErr (f1 l) l.length = 0 := firstErr_zero hZ1
        have hv2 : forestFault l = firstOf [firstErr (f2 l) l.length, firstErr (f3 l) l.length, firstErr (f4 l) l.length] := by rw [Hv.out, hE1]; rfl
        have Hv2 := Lib.hid hv2
        have HZ1 := Lib.hid hZ1
        clear hv2 hE1 Hv hf hZ1 hgk hlt hk
        obtain ⟨wo, rfl⟩ : ∃ wo : World, wo = wr := ⟨_, rfl⟩
        go_wp2_with fail
        go_loopg [62] l.length (fun gk i wr => ∃ k : Nat, i = .int .i64 k ∧ k ≤ l.length ∧ Hid (gk = l.length - k) ∧ Hid (∀ j, j < k → f2 l j = 0) ∧ MBox wr w.heap.size (upList l) ∧ Below w.heap.size w wr)
        case atStart => exact ⟨0, rfl, by omega, rfl, fun j hj => by omega, hM, hb⟩
        case round =>
          clear hb hM
          obtain ⟨k2, rfl, hk2, hgk, hf, hM, hb⟩ := hrel
          by_cases hlt2 : k2 < l.length
          · obtain ⟨b, off, ha, c0, c1⟩ := (hl.below hb).topic hlt2
            have hf2 : f2 l k2 = if !l[k2].2.toList.isEmpty && (ForestPure.topicOf l l[k2].2).isNone then 8 else 0 := by
              unfold f2; rw [List.getElem?_eq_getElem hlt2]
            have Hf2 := Lib.hid hf2
            clear hf2
            rw [ha]
            generalize l[k2].1 = x1 at *
            generalize l[k2].2 = x2 at *
            have hz := hb.size
            have hlk : ∀ o, (Instr.lookup 153 (.map (some w.heap.size)) (.string x2) true).run Tryz.prog (wr.alloc o) = .ok (.tuple #[.string (ForestPure.upOf e0 l x2), .bool (ForestPure.topicOf l x2).isSome]) (wr.alloc o) := fun o => by
              rw [← looked_up2]; exact MBox.look (hM.alloc o) Tryz.underlying153 Tryz.underlying9 _ Tryz.zeroString x2 true
            by_cases he : x2 = ⟨#[]⟩
            · have hq0 := toList_empty.2 he
              have hq1 : x2.toList = [] := List.isEmpty_iff.1 hq0
              have hz0 : f2 l k2 = 0 := by rw [Hf2.out, hq0]; rfl
              have Hz0 := Lib.hid hz0
              clear hz0 he
              go_wp2_with fail
              rw [← ha]
              go_roundg (l.length - (k2 + 1))
              case measure => have := hgk.out; omega
              case rel => exact ⟨k2 + 1, by go_num, by omega, rfl, zeros_succ hf.out Hz0.out, hM.alloc _, by (repeat' (first | exact Below.refl _ _ | assumption | refine Below.setCell ?_ ?_ _ | refine below_drewN ?_ _ | refine Below.drew ?_ | refine Below.alloc ?_ ?_ _ | (with_reducible refine Below.trans ?_ (Below.mono hb ?_)) | (with_reducible refine Below.trans ?_ (Below.mono hb0 ?_)) | (with_reducible refine Below.trans ?_ (Below.mono hb1 ?_)) | (with_reducible refine Below.trans ?_ (Below.mono hb2 ?_)) | (with_reducible refine Below.trans ?_ (Below.mono hb3 ?_)) | (with_reducible refine Below.trans ?_ (Below.mono hb4 ?_)) | (with_reducible refine Below.trans ?_ (Below.mono hb5 ?_)) | (with_reducible refine Below.trans ?_ (Below.mono hb6 ?_)) | (with_reducible refine Below.trans ?_ (Below.mono hb7 ?_)) | (with_reducible refine Below.trans ?_ (Below.mono hb8 ?_)) | (with_reducible refine Below.trans ?_ (Below.mono hb9 ?_)) | (with_reducible refine Below.trans ?_ (Below.mono hb10 ?_)) | (with_reducible refine Below.trans ?_ (Below.mono hb11 ?_)) | (with_reducible refine Below.trans ?_ (Below.mono hb12 ?_)) | (with_reducible refine Below.trans ?_ (Below.mono hb13 ?_)) | (with_reducible refine Below.trans ?_ (Below.mono hb14 ?_)) | (with_reducible refine Below.trans ?_ (Below.mono hb15 ?_)) | omega | (simp; done) | (simp; omega)))⟩
            · have hq1 : x2.toList ≠ [] := fun h => he (toList_empty.1 (List.isEmpty_iff.2 h))
              have hq2 : x2.toList.isEmpty = false := by simpa using hq1
              cases ho : ForestPure.topicOf l x2 with
              | none =>
                rw [ho] at hlk
                have hz8 : f2 l k2 = 8 := by rw [Hf2.out, hq2, ho]; rfl
                have he8 : firstErr (f2 l) l.length = 8 := by rw [firstErr_at hlt2 hf (by rw [hz8]; decide), hz8]
                have hfin : forestFault l = 8 := by rw [Hv2.out, he8]; rfl
                have Hfin := Lib.hid hfin
                clear hz8 he8 hfin he ho
                go_wp2_with fail
                go_ret
                exact ⟨by rw [Hfin.out]; rfl, by (repeat' (first | exact Below.refl _ _ | assumption | refine Below.setCell ?_ ?_ _ | refine below_drewN ?_ _ | refine Below.drew ?_ | refine Below.alloc ?_ ?_ _ | (with_reducible refine Below.trans ?_ (Below.mono hb ?_)) | (with_reducible refine Below.trans ?_ (Below.mono hb0 ?_)) | (with_reducible refine Below.trans ?_ (Below.mono hb1 ?_)) | (with_reducible refine Below.trans ?_ (Below.mono hb2 ?_)) | (with_reducible refine Below.trans ?_ (Below.mono hb3 ?_)) | (with_reducible refine Below.trans ?_ (Below.mono hb4 ?_)) | (with_reducible refine Below.trans ?_ (Below.mono hb5 ?_)) | (with_reducible refine Below.trans ?_ (Below.mono hb6 ?_)) | (with_reducible refine Below.trans ?_ (Below.mono hb7 ?_)) | (with_reducible refine Below.trans ?_ (Below.mono hb8 ?_)) | (with_reducible refine Below.trans ?_ (Below.mono hb9 ?_)) | (with_reducible refine Below.trans ?_ (Below.mono hb10 ?_)) | (with_reducible refine Below.trans ?_ (Below.mono hb11 ?_)) | (with_reducible refine Below.trans ?_ (Below.mono hb12 ?_)) | (with_reducible refine Below.trans ?_ (Below.mono hb13 ?_)) | (with_reducible refine Below.trans ?_ (Below.mono hb14 ?_)) | (with_reducible refine Below.trans ?_ (Below.mono hb15 ?_)) | omega | (simp; done) | (simp; omega)))⟩
              | some t =>
                rw [ho] at hlk
                have hz0 : f2 l k2 = 0 := by rw [Hf2.out, ho]; simp
                have Hz0 := Lib.hid hz0
                clear hz0 he ho
                go_wp2_with fail
                rw [← ha]
                go_roundg (l.length - (k2 + 1))
                case measure => have := hgk.out; omega
                case rel => exact ⟨k2 + 1, by go_num, by omega, rfl, zeros_succ hf.out Hz0.out, hM.alloc _, by (repeat' (first | exact Below.refl _ _ | assumption | refine Below.setCell ?_ ?_ _ | refine below_drewN ?_ _ | refine Below.drew ?_ | refine Below.alloc ?_ ?_ _ | (with_reducible refine Below.trans ?_ (Below.mono hb ?_)) | (with_reducible refine Below.trans ?_ (Below.mono hb0 ?_)) | (with_reducible refine Below.trans ?_ (Below.mono hb1 ?_)) | (with_reducible refine Below.trans ?_ (Below.mono hb2 ?_)) | (with_reducible refine Below.trans ?_ (Below.mono hb3 ?_)) | (with_reducible refine Below.trans ?_ (Below.mono hb4 ?_)) | (with_reducible refine Below.trans ?_ (Below.mono hb5 ?_)) | (with_reducible refine Below.trans ?_ (Below.mono hb6 ?_)) | (with_reducible refine Below.trans ?_ (Below.mono hb7 ?_)) | (with_reducible refine Below.trans ?_ (Below.mono hb8 ?_)) | (with_reducible refine Below.trans ?_ (Below.mono hb9 ?_)) | (with_reducible refine Below.trans ?_ (Below.mono hb10 ?_)) | (with_reducible refine Below.trans ?_ (Below.mono hb11 ?_)) | (with_reducible refine Below.trans ?_ (Below.mono hb12 ?_)) | (with_reducible refine Below.trans ?_ (Below.mono hb13 ?_)) | (with_reducible refine Below.trans ?_ (Below.mono hb14 ?_)) | (with_reducible refine Below.trans ?_ (Below.mono hb15 ?_)) | omega | (simp; done) | (simp; omega)))⟩
          · obtain rfl : k2 = l.length := by omega
            have hZ2 := hf.out
            have hE2 : firstErr (f2 l) l.length = 0 := firstErr_zero hZ2
            have hv3 : forestFault l = firstOf [firstErr (f3 l) l.length, firstErr (f4 l) l.length] := by rw [Hv2.out, hE2]; rfl
            have Hv3 := Lib.hid hv3
            have HZ2 := Lib.hid hZ2
            clear hv3 hE2 Hv2 hf hZ2 hgk hlt2 hk2
            obtain ⟨wo2, rfl⟩ : ∃ wo2 : World, wo2 = wr := ⟨_, rfl⟩
            have hKs := f1_keys HZ1.out
            have hOn := f1_once HZ1.out
            have HKs := Lib.hid hKs
            have HOn := Lib.hid hOn
            clear hKs hOn
            go_wp2_with fail
            go_loopg [83] l.length (fun gk i wr => ∃ k : Nat, i = .int .i64 k ∧ k ≤ l.length ∧ Hid (gk = l.length - k) ∧ Hid (∀ j, j < k → f3 l j = 0) ∧ MBox wr w.heap.size (upList l) ∧ Below w.heap.size w wr)
            case atStart => exact ⟨0, rfl, by omega, rfl, fun j hj => by omega, hM, hb⟩
            case round =>
              clear hb hM
              obtain ⟨k3, rfl, hk3, hgk, hf, hM, hb⟩ := hrel
              have hz := hb.size
              by_cases hlt3 : k3 < l.length
              · obtain ⟨b, off, ha, c0, c1⟩ := (hl.below hb).topic hlt3
                have Hf3 := Lib.hid (f3_iter HKs.out HOn.out hlt3)
                rw [ha]
                generalize l[k3].1 = x1 at *
                generalize l[k3].2 = x2 at *
                have hMq := hM.alloc (.cells #[.string x1, .string x2] 80)
                have hTq := Box.new wr 80 #[.string x1, .string x2]
                have hbq : Below w.heap.size w (wr.alloc (.cells #[.string x1, .string x2] 80)) := by (repeat' (first | exact Below.refl _ _ | assumption | refine Below.setCell ?_ ?_ _ | refine below_drewN ?_ _ | refine Below.drew ?_ | refine Below.alloc ?_ ?_ _ | (with_reducible refine Below.trans ?_ (Below.mono hb ?_)) | (with_reducible refine Below.trans ?_ (Below.mono hb0 ?_)) | (with_reducible refine Below.trans ?_ (Below.mono hb1 ?_)) | (with_reducible refine Below.trans ?_ (Below.mono hb2 ?_)) | (with_reducible refine Below.trans ?_ (Below.mono hb3 ?_)) | (with_reducible refine Below.trans ?_ (Below.mono hb4 ?_)) | (with_reducible refine Below.trans ?_ (Below.mono hb5 ?_)) | (with_reducible refine Below.trans ?_ (Below.mono hb6 ?_)) | (with_reducible refine Below.trans ?_ (Below.mono hb7 ?_)) | (with_reducible refine Below.trans ?_ (Below.mono hb8 ?_)) | (with_reducible refine Below.trans ?_ (Below.mono hb9 ?_)) | (with_reducible refine Below.trans ?_ (Below.mono hb10 ?_)) | (with_reducible refine Below.trans ?_ (Below.mono hb11 ?_)) | (with_reducible refine Below.trans ?_ (Below.mono hb12 ?_)) | (with_reducible refine Below.trans ?_ (Below.mono hb13 ?_)) | (with_reducible refine Below.trans ?_ (Below.mono hb14 ?_)) | (with_reducible refine Below.trans ?_ (Below.mono hb15 ?_)) | omega | (simp; done) | (simp; omega)))
                go_wp2_with fail
                generalize hwq : wr.alloc (.cells #[.string x1, .string x2] 80) = wq at *
                clear hwq
                obtain ⟨wp, rfl⟩ : ∃ wp : World, wp = wr := ⟨_, rfl⟩
                go_loopg [12, 91] l.length (fun gk s i wi => ∃ j : Nat, s = .string (ForestPure.iterUp e0 l j x2) ∧ i = .int .i64 j ∧ j ≤ l.length ∧ Hid (gk = l.length - j) ∧ Hid (∀ i, i < j → ForestPure.iterUp e0 l i x2 ≠ x1) ∧ wi = wq)
                case atStart => exact ⟨0, rfl, rfl, by omega, rfl, fun i hi => by omega, rfl⟩
                case round =>
                  obtain ⟨j, rfl, rfl, hj, hgj, hjf, rfl⟩ := hrel
                  have hTq_l := hTq.lt; have hTq_0 := hTq.cell 0; have hTq_1 := hTq.cell 1; simp at hTq_0 hTq_1
                  by_cases hjl : j < l.length
                  · have hnext : ForestPure.iterUp e0 l (j + 1) x2 = ForestPure.upOf e0 l (ForestPure.iterUp e0 l j x2) := ForestPure.iterUp_succ' e0 l j x2
                    have Hnext := Lib.hid hnext
                    have hlk : (Instr.lookup 153 (.map (some w.heap.size)) (.string (ForestPure.iterUp e0 l j x2)) false).run Tryz.prog wr = .ok (.string (ForestPure.upOf e0 l (ForestPure.iterUp e0 l j x2))) wr := by
                      rw [← looked_up]; exact MBox.look hMq Tryz.underlying153 Tryz.underlying9 _ Tryz.zeroString _ false
                    clear hnext
                    by_cases he : ForestPure.iterUp e0 l j x2 = x1
                    · have hz14 : f3 l k3 = 14 := Hf3.out.1 ⟨j, hjl, he⟩
                      have he14 : firstErr (f3 l) l.length = 14 := by rw [firstErr_at hlt3 hf (by rw [hz14]; decide), hz14]
                      have hfin : forestFault l = 14 := by rw [Hv3.out, he14]; rfl
                      have Hfin := Lib.hid hfin
                      have hq : ((ForestPure.iterUp e0 l j x2).toList == x1.toList) = true := by rw [beq_iff_eq, he]
                      clear hz14 he14 hfin he
                      generalize ForestPure.iterUp e0 l j x2 = kj at *
                      go_wp2_with fail
                      go_ret
                      exact ⟨by rw [Hfin.out]; rfl, hbq⟩
                    · have hq : ((ForestPure.iterUp e0 l j x2).toList == x1.toList) = false := by rw [beq_eq_false_iff_ne]; exact fun h => he (toList_inj.1 h)
                      have hjf2 : ∀ i, i < j + 1 → ForestPure.iterUp e0 l i x2 ≠ x1 := fun i hi => by
                        by_cases hij : i = j
                        · subst hij; exact he
                        · exact hjf.out i (by omega)
                      have Hjf2 := Lib.hid hjf2
                      clear he hjf2
                      generalize ForestPure.iterUp e0 l j x2 = kj at *
                      go_wp2_with fail
                      go_roundg (l.length - (j + 1))
                      case measure => have := hgj.out; omega
                      case rel => exact ⟨j + 1, by rw [Hnext.out], by go_num, by omega, rfl, Hjf2.out, rfl⟩
                  · obtain rfl : j = l.length := by omega
                    have hz0 : f3 l k3 = 0 := (f3_or l k3).resolve_right fun h => by
                      obtain ⟨i, hi, he⟩ := Hf3.out.2 h
                      exact hjf.out i hi he
                    have Hz0 := Lib.hid hz0
                    clear hz0 hgj
                    generalize ForestPure.iterUp e0 l l.length x2 = kj at *
                    go_wp2_with fail
                    rw [← ha]
                    go_roundg (l.length - (k3 + 1))
                    case measure => have := hgk.out; omega
                    case rel => exact ⟨k3 + 1, by go_num, by omega, rfl, zeros_succ hf.out Hz0.out, hMq, hbq⟩
              · obtain rfl : k3 = l.length := by omega
                have hR := rightF_of HZ1.out HZ2.out hf.out
                have hE3 : firstErr (f3 l) l.length = 0 := firstErr_zero hf.out
                have hv4 : forestFault l = firstOf [firstErr (f4 l) l.length] := by rw [Hv3.out, hE3]; rfl
                have Hv4 := Lib.hid hv4
                clear hv4 hE3 Hv3 hf hgk hlt3 hk3
                obtain ⟨wo3, rfl⟩ : ∃ wo3 : World, wo3 = wr := ⟨_, rfl⟩
                go_wp2_with fail
                refine (forestOf_any l a cap _ (hl.below hb) hlen hR).mono ?_
                rintro e w1 ⟨bF, rfl, ⟨es, hE1, hE2, hE3⟩, hb1⟩
                have hbw := below_next hb hb1
                have hzw := hbw.size
                go_wp2_with ((refine wpList_range_box rfl _ 109 rfl 9 52 Tryz.underlying109 bF es rfl hE1 ?_; intro o' hI))
                go_frame
                have hlens : ∀ p ∈ es, ∃ a cap, p.2 = .slice a (ForestPure.aboveN l (l.length + 1) p.1).length cap ∧ (ForestPure.aboveN l (l.length + 1) p.1).length ≤ 1000001 ∧ ∃ i, i < l.length ∧ f4 l i = (if (ForestPure.aboveN l (l.length + 1) p.1).length > 5 then 2 else 0) := fun p hp => by
                  obtain ⟨a, cap, h1, _⟩ := hE3 p hp
                  have hm : p.1 ∈ (l.take l.length).map (·.1) := hE2 ▸ List.mem_map_of_mem hp
                  rw [List.take_length] at hm
                  obtain ⟨t, ht, h2⟩ := List.mem_map.1 hm
                  obtain ⟨i, hi, rfl⟩ := List.mem_iff_getElem.1 ht
                  refine ⟨a, cap, h1, by have := aboveN_length l (l.length + 1) p.1; omega, i, hi, ?_⟩
                  unfold f4
                  rw [List.getElem?_eq_getElem hi, ← h2]
                have Hlens := Lib.hid hlens
                have hall : ∀ i, i < l.length → ∃ p ∈ es, f4 l i = (if (ForestPure.aboveN l (l.length + 1) p.1).length > 5 then 2 else 0) := fun i hi => by
                  have hm : l[i].1 ∈ es.map (·.1) := by rw [hE2, List.take_length]; exact List.mem_map_of_mem (List.getElem_mem hi)
                  obtain ⟨p, hp, h2⟩ := List.mem_map.1 hm
                  refine ⟨p, hp, ?_⟩
                  unfold f4
                  rw [List.getElem?_eq_getElem hi, h2]
                have Hall := Lib.hid hall
                clear hlens hall hE3 hE2 hE1
                go_loopg [] es.length (fun gk wr => ∃ left : List (ByteArray × Value), Hid (gk = left.length) ∧ IBox wr w1.heap.size bF es left ∧ Hid (∀ p ∈ es, p ∈ left ∨ (ForestPure.aboveN l (l.length + 1) p.1).length ≤ 5) ∧ Hid (∀ p ∈ left, p ∈ es) ∧ Below w.heap.size w wr)
                case atStart => exact ⟨es, rfl, hI, fun p hp => .inl hp, fun p hp => hp, by (repeat' (first | exact Below.refl _ _ | assumption | refine Below.setCell ?_ ?_ _ | refine below_drewN ?_ _ | refine Below.drew ?_ | refine Below.alloc ?_ ?_ _ | (with_reducible refine Below.trans ?_ (Below.mono hb ?_)) | (with_reducible refine Below.trans ?_ (Below.mono hb0 ?_)) | (with_reducible refine Below.trans ?_ (Below.mono hb1 ?_)) | (with_reducible refine Below.trans ?_ (Below.mono hb2 ?_)) | (with_reducible refine Below.trans ?_ (Below.mono hb3 ?_)) | (with_reducible refine Below.trans ?_ (Below.mono hb4 ?_)) | (with_reducible refine Below.trans ?_ (Below.mono hb5 ?_)) | (with_reducible refine Below.trans ?_ (Below.mono hb6 ?_)) | (with_reducible refine Below.trans ?_ (Below.mono hb7 ?_)) | (with_reducible refine Below.trans ?_ (Below.mono hb8 ?_)) | (with_reducible refine Below.trans ?_ (Below.mono hb9 ?_)) | (with_reducible refine Below.trans ?_ (Below.mono hb10 ?_)) | (with_reducible refine Below.trans ?_ (Below.mono hb11 ?_)) | (with_reducible refine Below.trans ?_ (Below.mono hb12 ?_)) | (with_reducible refine Below.trans ?_ (Below.mono hb13 ?_)) | (with_reducible refine Below.trans ?_ (Below.mono hb14 ?_)) | (with_reducible refine Below.trans ?_ (Below.mono hb15 ?_)) | omega | (simp; done) | (simp; omega)))⟩
                case round =>
                  obtain ⟨left, hgk, hIw, hdone, hsub, hbr⟩ := hrel
                  have hzr := hbr.size
                  go_wp2_with ((refine wpList_next_box rfl _ rfl w1.heap.size bF es left rfl hIw ?_ ?_))
                  · intro hnil
                    have hz4 : ∀ i, i < l.length → f4 l i = 0 := fun i hi => by
                      obtain ⟨p, hp, h1⟩ := Hall.out i hi
                      rcases hdone.out p hp with h2 | h2
                      · rw [hnil] at h2; cases h2
                      · rw [h1, if_neg (by omega)]
                    have hfin : forestFault l = 0 := by rw [Hv4.out, firstErr_zero hz4]; rfl
                    have Hfin := Lib.hid hfin
                    clear hz4 hfin hnil
                    go_wp2_with fail
                    go_ret
                    exact ⟨by rw [Hfin.out]; rfl, hbr⟩
                  · intro p0 kk v q w' hleft hI2 hent hg hsz
                    have hin : (kk, v) ∈ es := hsub.out (kk, v) (by rw [hleft]; simp)
                    obtain ⟨a', cap', hv, hle, i, hi, hf4⟩ := Hlens.out (kk, v) hin
                    simp only at hv
                    have hbr2 : Below w.heap.size w w' := hbr.grown hg (by omega) (by rintro j hj; cases hj; omega)
                    have hdone2 : (ForestPure.aboveN l (l.length + 1) kk).length ≤ 5 → ∀ p ∈ es, p ∈ p0 ++ q ∨ (ForestPure.aboveN l (l.length + 1) p.1).length ≤ 5 := fun h5 p hp => by
                      rcases hdone.out p hp with h2 | h2
                      · rw [hleft] at h2
                        simp only [List.mem_append, List.mem_cons] at h2 ⊢
                        rcases h2 with h2 | h2 | h2
                        · exact .inl (.inl h2)
                        · right; rw [h2]; exact h5
                        · exact .inl (.inr h2)
                      · exact .inr h2
                    have hlen2 : (p0 ++ q).length < left.length := by rw [hleft]; simp
                    have hsub2 : ∀ p ∈ p0 ++ q, p ∈ es := fun p hp => hsub.out p (by rw [hleft]; simp only [List.mem_append, List.mem_cons] at hp ⊢; exact hp.elim .inl (fun h => .inr (.inr h)))
                    have hfe : (ForestPure.aboveN l (l.length + 1) kk).length > 5 → forestFault l = 2 := fun h5 => by
                      have : firstErr (f4 l) l.length = 2 := firstErr_const 2 (by decide) (f4_or l) ⟨i, hi, by rw [hf4, if_pos h5]⟩
                      rw [Hv4.out, this]; rfl
                    have Hd2 := Lib.hid hdone2
                    have Hs2 := Lib.hid hsub2
                    have Hfe := Lib.hid hfe
                    rw [hv] at hent
                    rw [hv]
                    clear hdone2 hsub2 hfe hv hf4 hin hleft
                    generalize (ForestPure.aboveN l (l.length + 1) kk).length = n at *
                    by_cases h5 : 5 < n
                    · go_wp2_with fail
                      go_ret
                      exact ⟨by rw [Hfe.out h5]; rfl, hbr2⟩
                    · go_wp2_with fail
                      go_roundg (p0 ++ q).length
                      case measure => have := hgk.out; omega
                      case rel => exact ⟨p0 ++ q, rfl, hI2, Hd2.out (by omega), Hs2.out, hbr2⟩
end Go.Proofs.YtpgofjjcmldhpaaGreatDoor
