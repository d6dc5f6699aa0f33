/- The program's forest: forestOf makes a map from each key to all that stand above it. -/
import Derived.Test.YtfpoaggkjhcdnaaDoorTopic2
namespace Go.Proofs.YtfpoaggkjhcdnaaDoor
open Go.RowKit
set_option linter.unusedVariables false

/-- The empty string. -/
def e0 : ByteArray := ⟨#[]⟩
/-- The map 'up'. -/
def upList (l : List Topic) : List (ByteArray × Value) := l.map (fun t => (t.1, Value.string t.2))

theorem mget_upList (l : List Topic) (k : ByteArray) : mget (upList l) k = (ForestPure.topicOf l k).map (fun t => Value.string t.2) := by
  unfold upList ForestPure.topicOf
  induction l with
  | nil => rfl
  | cons t r ih =>
    by_cases h : t.1 = k
    · simp [mget, h]
    · simp [mget, h, ih]
theorem looked_up (l : List Topic) (k : ByteArray) : looked (upList l) k (.string ⟨#[]⟩) false = .string (ForestPure.upOf e0 l k) := by
  unfold looked ForestPure.upOf e0
  rw [mget_upList]
  cases ForestPure.topicOf l k <;> rfl
theorem looked_up2 (l : List Topic) (k : ByteArray) : looked (upList l) k (.string ⟨#[]⟩) true = .tuple #[.string (ForestPure.upOf e0 l k), .bool (ForestPure.topicOf l k).isSome] := by
  unfold looked ForestPure.upOf e0
  rw [mget_upList]
  cases ForestPure.topicOf l k <;> rfl

theorem mput_new (es : List (ByteArray × Value)) (k : ByteArray) (v : Value) (h : ∀ p ∈ es, p.1 ≠ k) : mput es k v = es ++ [(k, v)] := by
  induction es with
  | nil => rfl
  | cons p r ih =>
    rw [mput, if_neg (h p (by simp)), ih (fun q hq => h q (by simp [hq]))]; rfl
theorem mput_last (es : List (ByteArray × Value)) (k : ByteArray) (v u : Value) (h : ∀ p ∈ es, p.1 ≠ k) : mput (es ++ [(k, u)]) k v = es ++ [(k, v)] := by
  induction es with
  | nil => simp [mput]
  | cons p r ih =>
    rw [List.cons_append, mput, if_neg (h p (by simp)), ih (fun q hq => h q (by simp [hq]))]; rfl
theorem mget_new (es : List (ByteArray × Value)) (k : ByteArray) (h : ∀ p ∈ es, p.1 ≠ k) : mget es k = none := by
  induction es with
  | nil => rfl
  | cons p r ih => rw [mget, if_neg (h p (by simp)), ih (fun q hq => h q (by simp [hq]))]
theorem mget_last (es : List (ByteArray × Value)) (k : ByteArray) (u : Value) (h : ∀ p ∈ es, p.1 ≠ k) : mget (es ++ [(k, u)]) k = some u := by
  induction es with
  | nil => simp [mget]
  | cons p r ih => rw [List.cons_append, mget, if_neg (h p (by simp)), ih (fun q hq => h q (by simp [hq]))]

theorem once_take {l : List Topic} (h : ForestPure.Once l) {i : Nat} (hi : i < l.length) : ∀ t ∈ l.take i, t.1 ≠ l[i].1 := by
  intro t ht he
  obtain ⟨j, hj, rfl⟩ := List.mem_take_iff_getElem.1 ht
  have hn : (l.map (·.1)).Nodup := h
  have := (List.nodup_iff_pairwise_ne.1 hn)
  rw [List.pairwise_iff_getElem] at this
  refine this j i (by simp; omega) (by simpa using hi) (by omega) ?_
  simpa using he

theorem mput_upList {l : List Topic} (h : ForestPure.Once l) {i : Nat} (hi : i < l.length) : mput (upList (l.take i)) l[i].1 (.string l[i].2) = upList (l.take (i + 1)) := by
  rw [mput_new, List.take_succ_eq_append_getElem hi]
  · unfold upList; rw [List.map_append]; rfl
  · intro p hp
    obtain ⟨t, ht, rfl⟩ := List.mem_map.1 hp
    exact once_take h hi t ht

theorem Tryd.zeroString (w : World) : (zeroValue 9).run Tryd.prog w = .ok (.string ⟨#[]⟩) w := Tryd.zeroValue9 w
theorem Tryd.zeroStrings (w : World) : (zeroValue 31).run Tryd.prog w = .ok (.slice none 0 0) w := Tryd.zeroValue31 w

/-- A slice value reads as a list. -/
def Rds {α : Type} [Cel α] (w : World) (v : Value) (ls : List α) : Prop := ∃ a cap, v = .slice a ls.length cap ∧ SA w a ls ∧ ls.length ≤ cap
theorem Rds.below {α : Type} [Cel α] {w w' : World} {v : Value} {ls : List α} (h : Rds w v ls) (hb : Below w.heap.size w w') : Rds w' v ls := by
  obtain ⟨a, cap, h1, h2, h3⟩ := h; exact ⟨a, cap, h1, h2.below hb, h3⟩
theorem Own.rds {α : Type} [Cel α] {base : Nat} {E : TypeId} {w : World} {v : Value} {ls : List α} (h : Own base E w v ls) : Rds w v ls := by
  obtain ⟨a, cap, h1, h2, _, h3⟩ := h.sa; exact ⟨a, cap, h1, h2, h3⟩

/-- A slice stays while the map in block b is written. -/
theorem SA.stpMap {α : Type} [Cel α] {w w' : World} {a : Option Addr} {ls : List α} {b : Nat} {es : List (ByteArray × Value)} (h : SA w a ls) (hm : MBox w b es) (hs : Stp b w w') : SA w' a ls := by
  rcases h with h | ⟨c, off, rfl, h⟩
  · exact .inl h
  · by_cases hl : ls = []
    · exact .inl hl
    · refine .inr ⟨c, off, rfl, h.same (hs.block c (h.lt hl) ?_)⟩
      rintro rfl
      obtain ⟨ar, cl, h1, _⟩ := hm
      obtain ⟨x, r, rfl⟩ := List.exists_cons_of_ne_nil hl
      have h0 := h 0 0 x rfl Cel.pos
      have hx := Cel.len x
      have hp := Cel.pos (α := α)
      rw [List.getElem?_eq_getElem (by omega)] at h0
      simp [World.cell?, h1] at h0
theorem Rds.stpMap {α : Type} [Cel α] {w w' : World} {v : Value} {ls : List α} {b : Nat} {es : List (ByteArray × Value)} (h : Rds w v ls) (hm : MBox w b es) (hs : Stp b w w') : Rds w' v ls := by
  obtain ⟨a, cap, h1, h2, h3⟩ := h; exact ⟨a, cap, h1, h2.stpMap hm hs, h3⟩

/-- The map of a forest, as far as the first i topics. -/
def FMap (w : World) (b : Nat) (l : List Topic) (i : Nat) : Prop :=
  ∃ es, MBox w b es ∧ es.map (·.1) = (l.take i).map (·.1) ∧ ∀ p ∈ es, Rds w p.2 (ForestPure.aboveN l (l.length + 1) p.1)
theorem FMap.stp {w w' : World} {b : Nat} {l : List Topic} {i : Nat} (h : FMap w b l i) (hb : Below w.heap.size w w') : FMap w' b l i := by
  obtain ⟨es, h1, h2, h3⟩ := h
  exact ⟨es, h1.below hb, h2, fun p hp => (h3 p hp).below hb⟩

/-- A right forest, for the way up. -/
structure RightF (l : List Topic) : Prop where
  keys : ∀ t ∈ l, t.1 ≠ e0
  once : ForestPure.Once l
  closed : ForestPure.Closed e0 l
  noLoop : ForestPure.NoLoop e0 l

/-- The number of steps up, and what they are. -/
theorem RightF.way {l : List Topic} (h : RightF l) {t : Topic} (ht : t ∈ l) :
    ∃ m, m ≤ l.length ∧ ForestPure.iterUp e0 l m t.1 = e0 ∧ (∀ j, j < m → ForestPure.iterUp e0 l j t.1 ≠ e0) ∧ ForestPure.aboveN l (l.length + 1) t.1 = (List.range m).map (fun j => ForestPure.iterUp e0 l j t.1) := by
  obtain ⟨m, hm, he⟩ := ForestPure.ends h.keys h.closed h.noLoop h.once ⟨t, ht, rfl⟩
  obtain ⟨m', ⟨hm', he'⟩, hmin⟩ := exists_least (p := fun m => m ≤ l.length ∧ ForestPure.iterUp e0 l m t.1 = e0) ⟨m, hm, he⟩
  have hlt : ∀ j, j < m' → ForestPure.iterUp e0 l j t.1 ≠ e0 := fun j hj hh => by
    have := hmin j ⟨by omega, hh⟩; omega
  exact ⟨m', hm', he', hlt, ForestPure.aboveN_range h.keys h.closed ⟨t, ht, rfl⟩ m' he' hlt _ (by omega)⟩

theorem Stp.grown {S : Nat} {w0 w w' : World} {row : Option Nat} (h : Stp S w0 w) (hg : w.grownBy w' row) (hr : ∀ k, row = some k → k = S ∨ w0.heap.size ≤ k) : Stp S w0 w' :=
  ⟨hg.os.trans h.os, hg.tape.trans h.tape, hg.output.trans h.output, Nat.le_trans h.size hg.size, fun k hk hs => by
    rw [hg.block k (Nat.lt_of_lt_of_le hk h.size) (fun e => by rcases hr k e.symm with h1 | h1 <;> omega)]; exact h.block k hk hs⟩
theorem Below.of_stp {S B : Nat} {w w' : World} (h : Stp S w w') (hB : B ≤ S) (hw : B ≤ w.heap.size) : Below B w w' :=
  ⟨h.os, h.tape, h.output, h.size, fun k hk => h.block k (by omega) (by omega)⟩
theorem MBox.stp {S b : Nat} {w w' : World} {es : List (ByteArray × Value)} (h : MBox w b es) (k : Stp S w w') (hS : b ≠ S) : MBox w' b es := h.same (k.block _ h.lt hS)

/-- The map in block b while the list of one key grows. -/
def Grows (wi : World) (b N : Nat) (es : List (ByteArray × Value)) (x : ByteArray) (acc : List ByteArray) : Prop :=
  ∃ ej v, MBox wi b ej ∧ Own N 9 wi v acc ∧ looked ej x (.slice none 0 0) false = v ∧ (∀ u, mput ej x u = es ++ [(x, u)]) ∧ (acc ≠ [] → ej = es ++ [(x, v)])

theorem Grows.step {wi w1 w2 : World} {b N : Nat} {es ej : List (ByteArray × Value)} {x kj : ByteArray} {acc : List ByteArray} {u : Value}
    (hown : Own N 9 w1 u (acc ++ [kj])) (h4 : ∀ u, mput ej x u = es ++ [(x, u)]) (hne : ∀ p ∈ es, p.1 ≠ x) (hN : b < N) (hM : MBox w2 b (mput ej x u)) (hg : w1.grownBy w2 (some b)) : Grows w2 b N es x (acc ++ [kj]) := by
  refine ⟨mput ej x u, u, hM, hown.same fun k hk => hg.block k (hown.lt k hk).2 (fun h => ?_), ?_, ?_, ?_⟩
  · cases h; have := (hown.lt _ hk).1; omega
  · unfold looked; rw [h4, mget_last _ _ _ hne]; rfl
  · intro u'; rw [h4, mput_last _ _ _ _ hne]
  · intro _; exact h4 u

/-- forestOf has made its map. -/
def GivesForest (l : List Topic) (w : World) (e : Ending) (w' : World) : Prop := ∃ b, e = .returned (.map (some b)) ∧ FMap w' b l l.length ∧ Below w.heap.size w w'

set_option maxRecDepth 100000 in
set_option maxHeartbeats 4000000 in
theorem forestOf_any (l : List Topic) (a : Option Addr) (cap : Nat) (w : World) (hl : SA w a l) (hlen : l.length ≤ 1000000) (hr : RightF l) :
    Calls Tryd.prog 39 #[.slice a l.length cap] w (GivesForest l w) := by
  have hmm := @run_makeMap Tryd.prog
  go_enter Tryd.func39, Tryd.ntmps39
  go_wp2_with fail
  go_loopg [13] l.length (fun gk i wr => ∃ k : Nat, i = .int .i64 k ∧ k ≤ l.length ∧ Hid (gk = l.length - k) ∧ MBox wr w.heap.size (upList (l.take k)) ∧ Below w.heap.size w wr)
  case atStart => exact ⟨0, rfl, by omega, rfl, MBox.new w, by (repeat' (first | exact Below.refl _ _ | assumption | refine Below.setCell ?_ ?_ _ | refine below_drewN ?_ _ | refine Below.drew ?_ | refine Below.alloc ?_ ?_ _ | (with_reducible refine Below.trans ?_ (Below.mono hb ?_)) | (with_reducible refine Below.trans ?_ (Below.mono hb1 ?_)) | (with_reducible refine Below.trans ?_ (Below.mono hb2 ?_)) | (with_reducible refine Below.trans ?_ (Below.mono hb3 ?_)) | (with_reducible refine Below.trans ?_ (Below.mono hb4 ?_)) | (with_reducible refine Below.trans ?_ (Below.mono hb5 ?_)) | (with_reducible refine Below.trans ?_ (Below.mono hb6 ?_)) | omega | (simp; done) | (simp; omega)))⟩
  case round =>
    clear hmm
    obtain ⟨k, rfl, hk, hgk, hM, hb⟩ := hrel
    have hz := hb.size
    by_cases hlt : k < l.length
    · obtain ⟨b, off, ha, c0, c1⟩ := (hl.below hb).topic hlt
      have HU := Lib.hid (mput_upList hr.once hlt)
      rw [ha]
      generalize l[k].1 = x1 at *
      generalize l[k].2 = x2 at *
      go_wp2_with (at_mapUpdate; refine wpList_mapUpdate_box rfl _ _ _ 71 rfl 9 9 Tryd.underlying71 Tryd.underlying9 w.heap.size _ rfl (hM.alloc _) x1 rfl (.string x2) rfl ?_; intro w2 hM2 hg2 hs2)
      rw [← ha]
      go_roundg (l.length - (k + 1))
      case measure => have := hgk.out; omega
      case rel =>
        rw [HU.out] at hM2
        exact ⟨k + 1, by go_num, by omega, rfl, hM2, Below.grown (w := wr.alloc _) (by (repeat' (first | exact Below.refl _ _ | assumption | refine Below.setCell ?_ ?_ _ | refine below_drewN ?_ _ | refine Below.drew ?_ | refine Below.alloc ?_ ?_ _ | (with_reducible refine Below.trans ?_ (Below.mono hb ?_)) | (with_reducible refine Below.trans ?_ (Below.mono hb1 ?_)) | (with_reducible refine Below.trans ?_ (Below.mono hb2 ?_)) | (with_reducible refine Below.trans ?_ (Below.mono hb3 ?_)) | (with_reducible refine Below.trans ?_ (Below.mono hb4 ?_)) | (with_reducible refine Below.trans ?_ (Below.mono hb5 ?_)) | (with_reducible refine Below.trans ?_ (Below.mono hb6 ?_)) | omega | (simp; done) | (simp; omega)))) hg2 (by simp; omega) (by rintro j hj; cases hj; exact Nat.le_refl _)⟩
    · obtain rfl : k = l.length := by omega
      rw [List.take_length] at hM
      have hmm := @run_makeMap Tryd.prog
      obtain ⟨wo, rfl⟩ : ∃ wo : World, wo = wr := ⟨_, rfl⟩
      clear hgk hlt hk
      go_wp2_with fail
      go_loopg [9, 26] l.length (fun gk s i wr => ∃ k : Nat, i = .int .i64 k ∧ k ≤ l.length ∧ Hid (gk = l.length - k) ∧ MBox wr w.heap.size (upList l) ∧ FMap wr wo.heap.size l k ∧ Below w.heap.size w wr ∧ wo.heap.size < wr.heap.size)
      case atStart => exact ⟨0, rfl, by omega, rfl, hM.alloc _, ⟨[], MBox.new wo, rfl, by simp⟩, by (repeat' (first | exact Below.refl _ _ | assumption | refine Below.setCell ?_ ?_ _ | refine below_drewN ?_ _ | refine Below.drew ?_ | refine Below.alloc ?_ ?_ _ | (with_reducible refine Below.trans ?_ (Below.mono hb ?_)) | (with_reducible refine Below.trans ?_ (Below.mono hb1 ?_)) | (with_reducible refine Below.trans ?_ (Below.mono hb2 ?_)) | (with_reducible refine Below.trans ?_ (Below.mono hb3 ?_)) | (with_reducible refine Below.trans ?_ (Below.mono hb4 ?_)) | (with_reducible refine Below.trans ?_ (Below.mono hb5 ?_)) | (with_reducible refine Below.trans ?_ (Below.mono hb6 ?_)) | omega | (simp; done) | (simp; omega))), by simp⟩
      case round =>
        have hUO := hM.lt
        clear hmm hM hb
        obtain ⟨k, rfl, hk, hgk, hM, hF, hb, hbO⟩ := hrel
        have hz' := hb.size
        by_cases hlt : k < l.length
        · obtain ⟨b, off, ha, c0, c1⟩ := (hl.below hb).topic hlt
          obtain ⟨m, hm1, hm2, hm3, hm4⟩ := hr.way (List.getElem_mem hlt)
          have hT := Box.new wr 65 #[.string l[k].1, .string l[k].2]
          obtain ⟨es, hE1, hE2, hE3⟩ := hF
          have hne : ∀ p ∈ es, p.1 ≠ l[k].1 := fun p hp he => by
            have : p.1 ∈ (l.take k).map (·.1) := hE2 ▸ List.mem_map_of_mem hp
            obtain ⟨t, ht, h2⟩ := List.mem_map.1 this
            exact once_take hr.once hlt t ht (h2.trans he)
          have hfin : es.map (·.1) ++ [l[k].1] = (l.take (k + 1)).map (·.1) := by rw [hE2, List.take_succ_eq_append_getElem hlt, List.map_append]; rfl
          have Hfin := Lib.hid hfin
          have Hx0 := Lib.hid (hr.keys l[k] (List.getElem_mem hlt))
          have HE3 := Lib.hid hE3
          have Hne := Lib.hid hne
          have Hm := Lib.hid (And.intro hm2 (And.intro hm3 hm4))
          clear hm2 hm3 hm4 hE2 hE3 hne hfin
          rw [ha]
          generalize l[k].1 = x1 at *
          generalize l[k].2 = x2 at *
          go_wp2_with fail
          obtain ⟨wq, hwq⟩ : ∃ wq : World, wq = wr.alloc (.cells #[.string x1, .string x2] 65) := ⟨_, rfl⟩
          rw [← hwq]
          rw [← hwq] at hT
          have hq1 : Stp wo.heap.size wr wq := by rw [hwq]; exact (Stp.refl _ _).alloc _
          have hqM : MBox wq w.heap.size (upList l) := hM.stp hq1 (by omega)
          have hqE : MBox wq wo.heap.size es := by rw [hwq]; exact hE1.alloc _
          have hqs : wq.heap.size = wr.heap.size + 1 := by rw [hwq]; simp
          have Hqs := Lib.hid hqs
          have hqB : Below wr.heap.size wr wq := by rw [hwq]; (repeat' (first | exact Below.refl _ _ | assumption | refine Below.setCell ?_ ?_ _ | refine below_drewN ?_ _ | refine Below.drew ?_ | refine Below.alloc ?_ ?_ _ | (with_reducible refine Below.trans ?_ (Below.mono hb ?_)) | (with_reducible refine Below.trans ?_ (Below.mono hb1 ?_)) | (with_reducible refine Below.trans ?_ (Below.mono hb2 ?_)) | (with_reducible refine Below.trans ?_ (Below.mono hb3 ?_)) | (with_reducible refine Below.trans ?_ (Below.mono hb4 ?_)) | (with_reducible refine Below.trans ?_ (Below.mono hb5 ?_)) | (with_reducible refine Below.trans ?_ (Below.mono hb6 ?_)) | omega | (simp; done) | (simp; omega)))
          clear hwq hqs hM hE1 c0 c1
          obtain ⟨wp, rfl⟩ : ∃ wp : World, wp = wr := ⟨_, rfl⟩
          go_loopg [9] m (fun gk s wi => ∃ j : Nat, s = .string (ForestPure.iterUp e0 l j x1) ∧ j ≤ m ∧ Hid (gk = m - j) ∧ Stp wo.heap.size wq wi ∧ Grows wi wo.heap.size wq.heap.size es x1 ((List.range j).map (fun i => ForestPure.iterUp e0 l i x1)))
          case atStart => exact ⟨0, rfl, by omega, rfl, Stp.refl _ _, es, .slice none 0 0, hqE, Own.nil _ _ _, by unfold looked; rw [mget_new _ _ Hne.out]; rfl, fun u => mput_new _ _ _ Hne.out, by simp⟩
          case round =>
            obtain ⟨j, rfl, hj, hgj, hS, hG⟩ := hrel
            by_cases hjm : j < m
            · have hnz := Hm.out.2.1 j hjm
              have hq2 : (ForestPure.iterUp e0 l j x1).toList ≠ [] := fun h => hnz (toList_empty.1 (List.isEmpty_iff.2 h))
              have hq3 : (ForestPure.iterUp e0 l j x1).toList.isEmpty = false := by simpa using hq2
              have hnext : ForestPure.iterUp e0 l (j + 1) x1 = ForestPure.upOf e0 l (ForestPure.iterUp e0 l j x1) := ForestPure.iterUp_succ' e0 l j x1
              have hrng : (List.range (j + 1)).map (fun i => ForestPure.iterUp e0 l i x1) = (List.range j).map (fun i => ForestPure.iterUp e0 l i x1) ++ [ForestPure.iterUp e0 l j x1] := by rw [List.range_succ, List.map_append]; rfl
              have Hnext := Lib.hid hnext
              have Hrng := Lib.hid hrng
              have hacl : ((List.range j).map (fun i => ForestPure.iterUp e0 l i x1)).length = j := by simp
              have Hacl := Lib.hid hacl
              clear hnz hnext hrng hacl
              generalize (List.range j).map (fun i => ForestPure.iterUp e0 l i x1) = acc at *
              generalize ForestPure.iterUp e0 l j x1 = kj at *
              obtain ⟨ej, v, hG1, hG2, hG3, hG4, hG5⟩ := hG
              have hTi := hT.stp hS (by omega)
              have hMi := hqM.stp hS (by omega)
              have hl1 : (Instr.lookup 74 (.map (some wo.heap.size)) (.string x1) false).run Tryd.prog wr.drew = .ok v wr.drew := by
                rw [← hG3]; exact MBox.look hG1.drew Tryd.underlying74 Tryd.underlying9 _ Tryd.zeroStrings x1 false
              have hl2 : ∀ o, (Instr.lookup 74 (.map (some wo.heap.size)) (.string x1) false).run Tryd.prog (wr.alloc o).drew = .ok v (wr.alloc o).drew := fun o => by
                rw [← hG3]; exact MBox.look (hG1.alloc o).drew Tryd.underlying74 Tryd.underlying9 _ Tryd.zeroStrings x1 false
              have HG4 := Lib.hid hG4
              have HG5 := Lib.hid hG5
              have hqs := Hqs.out
              have hSz := hS.size
              have hown2 := (hG2.alloc (.cells #[.string kj] 9)).drew
              have hvb : v.ownBlock ≠ some wo.heap.size := fun h => by have := (hG2.lt _ h).1; omega
              have hvT : v.ownBlock ≠ some wp.heap.size := fun h => by have := (hG2.lt _ h).1; omega
              clear hG3 hG4 hG5
              have hTi_l := hTi.lt; have hTi_0 := hTi.cell 0; have hTi_1 := hTi.cell 1; simp at hTi_0 hTi_1
              go_wp2_with fail
              go_region_held3 (fun wx => wx.cell? ⟨wp.heap.size, 0, none⟩ = some (.string x1)) (first | (go_simp; done) | (rw [World.grownBy.cell_far hgrow _ (by simp; omega) (Ne.symm hvT)]; go_simp; done) | (rw [World.grownBy.cell_far hg2 _ (by have := hgrow.size; simp at this; simp; omega) (by simp; omega)]; rw [World.grownBy.cell_far hgrow _ (by simp; omega) (Ne.symm hvT)]; go_simp; done)) (first | (refine step_append_one (by rfl) _ _ 31 (by rfl) 9 16 (.string ⟨#[]⟩) Tryd.underlying31 Tryd.infoString (by rfl) v acc (by rfl) hown2 kj wr.heap.size (by rfl) (Box.drew (Box.new wr 9 #[.string kj])) (by have := Hacl.out; omega) (by have := Hacl.out; omega) (by simp; omega) ?_; intro gg cap1 w1 hown1 hgrow; obtain ⟨w2, hrun2, hM2, hg2, hs2⟩ := MBox.store (P := Tryd.prog) (((hG1.alloc _).drew).grown hgrow (Ne.symm hvb)) Tryd.underlying74 Tryd.underlying9 x1 (.slice (some ⟨gg, 0, none⟩) (acc.length + 1) cap1)))
              all_goals
                have hSt : Stp wo.heap.size wq w2 := ((hS.alloc _).drew.grown hgrow (fun k hk => .inr (hG2.lt k hk).1)).grown hg2 (fun k hk => by cases hk; exact .inl rfl)
                have hGr : Grows w2 wo.heap.size wq.heap.size es x1 (acc ++ [kj]) := Grows.step (wi := wr) hown1 HG4.out Hne.out (by omega) hM2 hg2
                have hl3 : (Instr.lookup 71 (.map (some w.heap.size)) (.string kj) false).run Tryd.prog w2 = .ok (.string (ForestPure.upOf e0 l kj)) w2 := by
                  rw [← looked_up]; exact MBox.look (hqM.stp hSt (by omega)) Tryd.underlying71 Tryd.underlying9 _ Tryd.zeroString kj false
                go_wp2_with fail
                go_roundg (m - (j + 1))
                case measure => have := hgj.out; omega
                case rel => exact ⟨j + 1, by rw [Hnext.out], by omega, rfl, hSt, by rw [Hrng.out]; exact hGr⟩
            · obtain rfl : j = m := by omega
              have hk0 : ForestPure.iterUp e0 l j x1 = e0 := Hm.out.1
              have hk1 : (ForestPure.iterUp e0 l j x1).toList = [] := by rw [hk0]; exact List.isEmpty_iff.1 (toList_empty.2 rfl)
              have hacc : (List.range j).map (fun i => ForestPure.iterUp e0 l i x1) = ForestPure.aboveN l (l.length + 1) x1 := Hm.out.2.2.symm
              rw [hacc] at hG
              have hne0 : ForestPure.aboveN l (l.length + 1) x1 ≠ [] := by
                rw [← hacc]
                intro h
                have : j = 0 := by simpa using h
                subst this
                exact Hx0.out hk0
              obtain ⟨ej, v, hG1, hG2, hG3, hG4, hG5⟩ := hG
              have hej := hG5 hne0
              clear hacc hne0 hG3 hG4 hG5 hk0
              generalize ForestPure.iterUp e0 l j x1 = kj at *
              go_wp2_with fail
              rw [← ha]
              go_roundg (l.length - (k + 1))
              case measure => have := hgk.out; omega
              case rel =>
                have hqs := Hqs.out
                have hSz := hS.size
                refine ⟨k + 1, by go_num, by omega, rfl, hqM.stp hS (by omega), ⟨ej, hG1, ?_, ?_⟩, ?_, by omega⟩
                · rw [hej, List.map_append]; exact Hfin.out
                · intro p hp
                  rw [hej] at hp
                  rcases List.mem_append.1 hp with hp | hp
                  · exact ((HE3.out p hp).below hqB).stpMap hqE hS
                  · obtain rfl : p = (x1, v) := by simpa using hp
                    exact hG2.rds
                · exact (hb.trans (hqB.mono hz')).trans (Below.of_stp hS (by omega) (by omega))
        · obtain rfl : k = l.length := by omega
          clear hgk
          go_wp2_with fail
          go_ret
          exact ⟨_, rfl, hF, hb⟩
end Go.Proofs.YtfpoaggkjhcdnaaDoor
