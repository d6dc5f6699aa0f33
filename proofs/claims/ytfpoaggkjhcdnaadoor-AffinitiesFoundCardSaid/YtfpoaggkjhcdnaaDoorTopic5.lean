/- Above, Below, Meet and Near of the program; slices.Clone and slices.Equal of strings. -/
import Derived.Test.YtfpoaggkjhcdnaaDoorTopic4
namespace Go.Proofs.YtfpoaggkjhcdnaaDoor
open Go.RowKit
set_option linter.unusedVariables false

theorem ArrAt.getD {w : World} {b off : Nat} {l : List ByteArray} (h : ArrAt w b off l) : ∀ j, j < l.length → w.cell? ⟨b, off + j, none⟩ = some (.string (l.getD j ByteArray.empty)) := fun j hj => by
  have := h j 0 l[j] (List.getElem?_eq_getElem hj) (by decide)
  rw [show off + (j * Cel.k ByteArray + 0) = off + j from by show off + (j * 1 + 0) = _; omega] at this
  rw [this, List.getD_eq_getElem?_getD, List.getElem?_eq_getElem hj]
  rfl
theorem strs_flat (l : List ByteArray) : l.map Value.string = l.flatMap Cel.cells := by
  induction l with
  | nil => rfl
  | cons x r ih => rw [List.map_cons, List.flatMap_cons, ih]; rfl
theorem clone_any (l : List ByteArray) (a : Option Addr) (cap : Nat) (w : World) (h : SA w a l) (hlen : l.length ≤ 1000000000) :
    Calls Tryd.prog 41 #[.slice a l.length cap] w (GivesOwn 9 l w) := by
  cases a with
  | none =>
    rcases h with rfl | ⟨b, off, h, _⟩
    · refine (Tryd.slices_Clone_string_nil 0 cap w).mono ?_
      rintro e w' ⟨rfl, rfl⟩
      exact ⟨_, rfl, Own.nil _ _ _, Below.refl _ _⟩
    · cases h
  | some x =>
    rcases h with rfl | ⟨b, off, h, ha⟩
    · refine (Tryd.slices_Clone_string_zero x cap w).mono ?_
      rintro e w' ⟨v, rfl, h1, _, h2⟩
      exact ⟨v, rfl, h1, h2⟩
    · cases h
      refine (Tryd.slices_Clone_string b off l.length cap l w (Nat.le_refl _) (by omega) ha.getD).mono ?_
      rintro e w' ⟨v, rfl, h1, _, h2⟩
      rw [List.take_length, strs_flat] at h1
      exact ⟨v, rfl, h1, h2⟩
theorem equal_any (l m : List ByteArray) (a a2 : Option Addr) (cap cap2 : Nat) (w : World) (h : SA w a l) (h2 : SA w a2 m) (hlen : l.length ≤ 1000000000) (hlen2 : m.length ≤ 1000000000) :
    Calls Tryd.prog 14 #[.slice a l.length cap, .slice a2 m.length cap2] w (Draws (.bool (decide (l = m))) w) := by
  rcases h with rfl | ⟨b, off, rfl, ha⟩
  · refine (Tryd.slices_Equal_string_empty a a2 cap m.length cap2 w (by omega)).mono ?_
    rintro e w' ⟨rfl, rfl⟩
    refine ⟨?_, 0, rfl⟩
    congr 2
    rw [Bool.eq_iff_iff]
    cases m <;> simp
  · rcases h2 with rfl | ⟨b2, off2, rfl, ha2⟩
    · by_cases hl : l = []
      · subst hl
        refine (Tryd.slices_Equal_string_empty _ a2 cap 0 cap2 w (by omega)).mono ?_
        rintro e w' ⟨rfl, rfl⟩
        exact ⟨rfl, 0, rfl⟩
      · refine (Tryd.slices_Equal_string_lens _ a2 l.length cap 0 cap2 w (by simpa using hl)).mono ?_
        rintro e w' ⟨rfl, rfl⟩
        exact ⟨by simp [hl], 0, rfl⟩
    · refine (Tryd.slices_Equal_string b off l.length cap b2 off2 m.length cap2 l m w (Nat.le_refl _) (Nat.le_refl _) (by omega) (by omega) ha.getD ha2.getD).mono ?_
      rintro e w' ⟨rfl, n, rfl⟩
      exact ⟨by rw [List.take_length, List.take_length], n, rfl⟩

theorem Box.sa1 {w : World} {b : Nat} {T : TypeId} {x : ByteArray} (h : Box w b T #[.string x]) : SA w (some ⟨b, 0, none⟩) [x] := .inr ⟨b, 0, rfl, fun i j y hy hj => by
  cases i with
  | zero =>
    simp at hy
    subst hy
    have : j = 0 := by have : Cel.k ByteArray = 1 := rfl; omega
    subst this
    exact (h.cell 0).trans rfl
  | succ i => simp at hy⟩
theorem Box.sa2 {w : World} {b : Nat} {T : TypeId} {x y : ByteArray} (h : Box w b T #[.string x, .string y]) : SA w (some ⟨b, 0, none⟩) [x, y] := .inr ⟨b, 0, rfl, fun i j z hz hj => by
  have : j = 0 := by have : Cel.k ByteArray = 1 := rfl; omega
  subst this
  have hk : ∀ i, 0 + (i * Cel.k ByteArray + 0) = i := fun i => by show 0 + (i * 1 + 0) = i; omega
  rw [hk]
  match i, hz with
  | 0, hz => simp at hz; subst hz; exact (h.cell 0).trans rfl
  | 1, hz => simp at hz; subst hz; exact (h.cell 1).trans rfl⟩

theorem ab_pos {l : List Topic} {k : ByteArray} (h : (ForestPure.topicOf l k).isNone = false) : 1 ≤ (ab l k).length := by
  unfold ab
  rw [ForestPure.aboveN]
  cases ho : ForestPure.topicOf l k with
  | none => rw [ho] at h; cases h
  | some t => simp
theorem knownE_pos {l : List Topic} {p q : ByteArray} (h : knownE l [p, q] = 0) : 1 ≤ (ab l p).length := by
  refine ab_pos ?_
  unfold knownE at h
  split at h
  · exact absurd h ‹_›
  · split at h
    · cases h
    · rename_i h2
      cases ho : (ForestPure.topicOf l p).isNone
      · rfl
      · exact absurd (by simp [ho]) h2

/-- A value and an error code. -/
def GivesStrs (l : List ByteArray) (er : Int) (w : World) (e : Ending) (w' : World) : Prop :=
  Below w.heap.size w w' ∧ ∃ v ls, e = .returned (.tuple #[v, .int .i64 er]) ∧ Rds w' v ls ∧ ls.length ≤ 1000001 ∧ (er = 0 → ls = l)
def GivesVal (u z : Value) (er : Int) (w : World) (e : Ending) (w' : World) : Prop :=
  Below w.heap.size w w' ∧ e = .returned (.tuple #[if er = 0 then u else z, .int .i64 er])

set_option maxRecDepth 100000 in
set_option maxHeartbeats 4000000 in
theorem above_any (l : List Topic) (a : Option Addr) (cap : Nat) (p : ByteArray) (w : World) (hl : SA w a l) (hlen : l.length ≤ 1000000) (hsm : SmallT l) :
    Calls Tryd.prog 9 #[.slice a l.length cap, .string p] w (GivesStrs (ab l p) (knownE l [p]) w) := by
  have HK := Lib.hid (known_any l a cap [p] (some ⟨w.heap.size, 0, none⟩) 1 (w.alloc (.cells #[.string p] 9)) (hl.alloc _) (Box.new w 9 #[.string p]).sa1 hlen (by simp) hsm)
  unfold GivesKnown at HK
  generalize hE : knownE l [p] = er at *
  go_enter Tryd.func9, Tryd.ntmps9
  go_wp2_with fail
  refine HK.out.mono ?_
  rintro e w1 ⟨hb1, ⟨h0, rfl⟩ | ⟨rfl, b, rfl, hF⟩⟩
  · have hq : (er != 0) = true := by simpa using h0
    go_wp2_with fail
    go_ret2
    have hz1 := hb1.size
    refine ⟨by (repeat' (first | exact Below.refl _ _ | assumption | refine Below.setCell ?_ ?_ _ | refine below_drewN ?_ _ | refine Below.drew ?_ | refine Below.alloc ?_ ?_ _ | (with_reducible refine Below.trans ?_ (Below.mono hb ?_)) | (with_reducible refine Below.trans ?_ (Below.mono hb1 ?_)) | (with_reducible refine Below.trans ?_ (Below.mono hb2 ?_)) | (with_reducible refine Below.trans ?_ (Below.mono hb3 ?_)) | (with_reducible refine Below.trans ?_ (Below.mono hb4 ?_)) | (with_reducible refine Below.trans ?_ (Below.mono hb5 ?_)) | (with_reducible refine Below.trans ?_ (Below.mono hb6 ?_)) | omega | (simp; done) | (simp; omega))), _, [], rfl, ⟨none, 0, rfl, .inl rfl, Nat.le_refl _⟩, by simp, fun h => absurd h h0⟩
  · obtain ⟨v1, ⟨a1, cap1, rfl, hsa1, hc1⟩, hrun1, _⟩ := hF.look p
    have hlp := ab_length l p
    generalize ab l p = rp at *
    go_wp2_with fail
    refine (clone_any rp a1 cap1 w1 hsa1 (by omega)).mono ?_
    rintro e w2 ⟨v2, rfl, hown2, hb2⟩
    go_wp2_with fail
    go_ret2
    have hz1 := hb1.size
    have hb1' : Below w.heap.size w w1 := by (repeat' (first | exact Below.refl _ _ | assumption | refine Below.setCell ?_ ?_ _ | refine below_drewN ?_ _ | refine Below.drew ?_ | refine Below.alloc ?_ ?_ _ | (with_reducible refine Below.trans ?_ (Below.mono hb ?_)) | (with_reducible refine Below.trans ?_ (Below.mono hb1 ?_)) | (with_reducible refine Below.trans ?_ (Below.mono hb2 ?_)) | (with_reducible refine Below.trans ?_ (Below.mono hb3 ?_)) | (with_reducible refine Below.trans ?_ (Below.mono hb4 ?_)) | (with_reducible refine Below.trans ?_ (Below.mono hb5 ?_)) | (with_reducible refine Below.trans ?_ (Below.mono hb6 ?_)) | omega | (simp; done) | (simp; omega)))
    exact ⟨below_next hb1' hb2, v2, rp, rfl, hown2.rds, by omega, fun _ => rfl⟩

set_option maxRecDepth 100000 in
set_option maxHeartbeats 4000000 in
theorem meetX_any (l : List Topic) (a : Option Addr) (cap : Nat) (p q : ByteArray) (w : World) (hl : SA w a l) (hlen : l.length ≤ 1000000) (hsm : SmallT l) :
    Calls Tryd.prog 11 #[.slice a l.length cap, .string p, .string q] w (GivesVal (.string (meetS l p q)) (.string ⟨#[]⟩) (knownE l [p, q]) w) := by
  have HK := Lib.hid (known_any l a cap [p, q] (some ⟨w.heap.size, 0, none⟩) 2 (w.alloc (.cells #[.string p, .string q] 9)) (hl.alloc _) (Box.new w 9 #[.string p, .string q]).sa2 hlen (by simp) hsm)
  unfold GivesKnown at HK
  generalize hE : knownE l [p, q] = er at *
  go_enter Tryd.func11, Tryd.ntmps11
  go_wp2_with fail
  refine HK.out.mono ?_
  rintro e w1 ⟨hb1, ⟨h0, rfl⟩ | ⟨rfl, b, rfl, hF⟩⟩
  · have hq : (er != 0) = true := by simpa using h0
    go_wp2_with fail
    go_ret2
    have hz1 := hb1.size
    exact ⟨by (repeat' (first | exact Below.refl _ _ | assumption | refine Below.setCell ?_ ?_ _ | refine below_drewN ?_ _ | refine Below.drew ?_ | refine Below.alloc ?_ ?_ _ | (with_reducible refine Below.trans ?_ (Below.mono hb ?_)) | (with_reducible refine Below.trans ?_ (Below.mono hb1 ?_)) | (with_reducible refine Below.trans ?_ (Below.mono hb2 ?_)) | (with_reducible refine Below.trans ?_ (Below.mono hb3 ?_)) | (with_reducible refine Below.trans ?_ (Below.mono hb4 ?_)) | (with_reducible refine Below.trans ?_ (Below.mono hb5 ?_)) | (with_reducible refine Below.trans ?_ (Below.mono hb6 ?_)) | omega | (simp; done) | (simp; omega))), by rw [if_neg h0]; rfl⟩
  · go_wp2_with fail
    refine (meet_any l b p q w1 hF hlen).mono ?_
    rintro e w2 ⟨rfl, rfl⟩
    go_wp2_with fail
    go_ret2
    have hz1 := hb1.size
    exact ⟨by (repeat' (first | exact Below.refl _ _ | assumption | refine Below.setCell ?_ ?_ _ | refine below_drewN ?_ _ | refine Below.drew ?_ | refine Below.alloc ?_ ?_ _ | (with_reducible refine Below.trans ?_ (Below.mono hb ?_)) | (with_reducible refine Below.trans ?_ (Below.mono hb1 ?_)) | (with_reducible refine Below.trans ?_ (Below.mono hb2 ?_)) | (with_reducible refine Below.trans ?_ (Below.mono hb3 ?_)) | (with_reducible refine Below.trans ?_ (Below.mono hb4 ?_)) | (with_reducible refine Below.trans ?_ (Below.mono hb5 ?_)) | (with_reducible refine Below.trans ?_ (Below.mono hb6 ?_)) | omega | (simp; done) | (simp; omega))), rfl⟩

set_option maxRecDepth 100000 in
set_option maxHeartbeats 4000000 in
theorem nearX_any (l : List Topic) (a : Option Addr) (cap : Nat) (p q : ByteArray) (w : World) (hl : SA w a l) (hlen : l.length ≤ 1000000) (hsm : SmallT l) :
    Calls Tryd.prog 12 #[.slice a l.length cap, .string p, .string q] w (GivesVal (nearV l p q) (.agg #[.int .i64 0, .int .i64 0]) (knownE l [p, q]) w) := by
  have HK := Lib.hid (known_any l a cap [p, q] (some ⟨w.heap.size + 1, 0, none⟩) 2 ((w.alloc (.cells #[.int .i64 0, .int .i64 0] 37)).alloc (.cells #[.string p, .string q] 9)) ((hl.alloc _).alloc _) (Box.newAt _ _ 9 #[.string p, .string q] (by simp)).sa2 hlen (by simp) hsm)
  have hB := (Box.new w 37 #[.int .i64 0, .int .i64 0]).alloc (.cells #[.string p, .string q] 9)
  have HP := Lib.hid (@knownE_pos l p q)
  unfold GivesKnown at HK
  generalize hE : knownE l [p, q] = er at *
  go_enter Tryd.func12, Tryd.ntmps12
  go_wp2_with fail
  refine HK.out.mono ?_
  rintro e w1 ⟨hb1, ⟨h0, rfl⟩ | ⟨rfl, b, rfl, hF⟩⟩
  · have hq : (er != 0) = true := by simpa using h0
    have hR := hB.below hb1
    have hR_l := hR.lt; have hR_0 := hR.cell 0; have hR_1 := hR.cell 1; simp at hR_0 hR_1
    have hR_f0 := hR.frozen 0; have hR_f1 := hR.frozen 1
    go_wp2_with fail
    refine bodyPost_ret (v := .tuple #[.agg #[.int .i64 0, .int .i64 0], .int .i64 er]) (by simp only [results, Tryd.results12]; go_simp) rfl ⟨?_, by rw [if_neg h0]⟩
    have hz1 := hb1.size
    (repeat' (first | exact Below.refl _ _ | assumption | refine Below.setCell ?_ ?_ _ | refine below_drewN ?_ _ | refine Below.drew ?_ | refine Below.alloc ?_ ?_ _ | (with_reducible refine Below.trans ?_ (Below.mono hb ?_)) | (with_reducible refine Below.trans ?_ (Below.mono hb1 ?_)) | (with_reducible refine Below.trans ?_ (Below.mono hb2 ?_)) | (with_reducible refine Below.trans ?_ (Below.mono hb3 ?_)) | (with_reducible refine Below.trans ?_ (Below.mono hb4 ?_)) | (with_reducible refine Below.trans ?_ (Below.mono hb5 ?_)) | (with_reducible refine Below.trans ?_ (Below.mono hb6 ?_)) | omega | (simp; done) | (simp; omega)))
  · have hR := hB.below hb1
    obtain ⟨n1, n2, hn⟩ : ∃ n1 n2 : Int, nearV l p q = .agg #[.int .i64 n1, .int .i64 n2] := by unfold nearV; split <;> exact ⟨_, _, rfl⟩
    have HN := Lib.hid (near_any l b p q w1 hF hlen (HP.out rfl))
    rw [hn] at HN
    have hz1 := hb1.size
    have hb1' : Below w.heap.size w w1 := by (repeat' (first | exact Below.refl _ _ | assumption | refine Below.setCell ?_ ?_ _ | refine below_drewN ?_ _ | refine Below.drew ?_ | refine Below.alloc ?_ ?_ _ | (with_reducible refine Below.trans ?_ (Below.mono hb ?_)) | (with_reducible refine Below.trans ?_ (Below.mono hb1 ?_)) | (with_reducible refine Below.trans ?_ (Below.mono hb2 ?_)) | (with_reducible refine Below.trans ?_ (Below.mono hb3 ?_)) | (with_reducible refine Below.trans ?_ (Below.mono hb4 ?_)) | (with_reducible refine Below.trans ?_ (Below.mono hb5 ?_)) | (with_reducible refine Below.trans ?_ (Below.mono hb6 ?_)) | omega | (simp; done) | (simp; omega)))
    go_wp2_with fail
    refine HN.out.mono ?_
    rintro e w2 ⟨rfl, hb2⟩
    replace hR := hR.below hb2
    have hR_l := hR.lt; have hR_0 := hR.cell 0; have hR_1 := hR.cell 1; simp at hR_0 hR_1
    have hR_f0 := hR.frozen 0; have hR_f1 := hR.frozen 1
    go_wp2_with fail
    refine bodyPost_ret (v := .tuple #[.agg #[.int .i64 n1, .int .i64 n2], .int .i64 0]) (by simp only [results, Tryd.results12]; go_simp) rfl ⟨?_, by rw [← hn]; rfl⟩
    have hb3 := below_next hb1' hb2
    clear hb1 hb2 hb1'
    (repeat' (first | exact Below.refl _ _ | assumption | refine Below.setCell ?_ ?_ _ | refine below_drewN ?_ _ | refine Below.drew ?_ | refine Below.alloc ?_ ?_ _ | (with_reducible refine Below.trans ?_ (Below.mono hb ?_)) | (with_reducible refine Below.trans ?_ (Below.mono hb1 ?_)) | (with_reducible refine Below.trans ?_ (Below.mono hb2 ?_)) | (with_reducible refine Below.trans ?_ (Below.mono hb3 ?_)) | (with_reducible refine Below.trans ?_ (Below.mono hb4 ?_)) | (with_reducible refine Below.trans ?_ (Below.mono hb5 ?_)) | (with_reducible refine Below.trans ?_ (Below.mono hb6 ?_)) | omega | (simp; done) | (simp; omega)))

set_option maxRecDepth 100000 in
set_option maxHeartbeats 4000000 in
theorem belowX_any (l : List Topic) (a : Option Addr) (cap : Nat) (key : ByteArray) (w : World) (hl : SA w a l) (hlen : l.length ≤ 1000000) (hsm : SmallT l) :
    Calls Tryd.prog 10 #[.slice a l.length cap, .string key] w (GivesStrs (belowS l key) (knownE l [key]) w) := by
  have HK := Lib.hid (known_any l a cap [key] (some ⟨w.heap.size, 0, none⟩) 1 (w.alloc (.cells #[.string key] 9)) (hl.alloc _) (Box.new w 9 #[.string key]).sa1 hlen (by simp) hsm)
  unfold GivesKnown at HK
  generalize hE : knownE l [key] = er at *
  go_enter Tryd.func10, Tryd.ntmps10
  go_wp2_with fail
  refine HK.out.mono ?_
  rintro e w1 ⟨hb1, ⟨h0, rfl⟩ | ⟨rfl, bF, rfl, hF⟩⟩
  · have hq : (er != 0) = true := by simpa using h0
    go_wp2_with fail
    go_ret2
    have hz1 := hb1.size
    refine ⟨by (repeat' (first | exact Below.refl _ _ | assumption | refine Below.setCell ?_ ?_ _ | refine below_drewN ?_ _ | refine Below.drew ?_ | refine Below.alloc ?_ ?_ _ | (with_reducible refine Below.trans ?_ (Below.mono hb ?_)) | (with_reducible refine Below.trans ?_ (Below.mono hb1 ?_)) | (with_reducible refine Below.trans ?_ (Below.mono hb2 ?_)) | (with_reducible refine Below.trans ?_ (Below.mono hb3 ?_)) | (with_reducible refine Below.trans ?_ (Below.mono hb4 ?_)) | (with_reducible refine Below.trans ?_ (Below.mono hb5 ?_)) | (with_reducible refine Below.trans ?_ (Below.mono hb6 ?_)) | omega | (simp; done) | (simp; omega))), _, [], rfl, ⟨none, 0, rfl, .inl rfl, Nat.le_refl _⟩, by simp, fun h => absurd h h0⟩
  have hz1 := hb1.size
  have hb1' : Below w.heap.size w w1 := by (repeat' (first | exact Below.refl _ _ | assumption | refine Below.setCell ?_ ?_ _ | refine below_drewN ?_ _ | refine Below.drew ?_ | refine Below.alloc ?_ ?_ _ | (with_reducible refine Below.trans ?_ (Below.mono hb ?_)) | (with_reducible refine Below.trans ?_ (Below.mono hb1 ?_)) | (with_reducible refine Below.trans ?_ (Below.mono hb2 ?_)) | (with_reducible refine Below.trans ?_ (Below.mono hb3 ?_)) | (with_reducible refine Below.trans ?_ (Below.mono hb4 ?_)) | (with_reducible refine Below.trans ?_ (Below.mono hb5 ?_)) | (with_reducible refine Below.trans ?_ (Below.mono hb6 ?_)) | omega | (simp; done) | (simp; omega)))
  clear HK hb1 hz1
  go_wp2_with fail
  go_loopg [8, 23] l.length (fun gk v i wr => ∃ (k : Nat) (acc : List ByteArray), i = .int .i64 k ∧ k ≤ l.length ∧ Hid (gk = l.length - k) ∧ Hid (acc = ((l.take k).filter (fun t => hasS (ab l t.1) key)).map (·.1)) ∧ Hid (acc.length ≤ k) ∧ Own w1.heap.size 9 wr v acc ∧ Below w1.heap.size w1 wr)
  case atStart => exact ⟨0, [], rfl, by omega, rfl, rfl, by show (0 : Nat) ≤ 0; omega, Own.nil _ _ _, Below.refl _ _⟩
  case round =>
    obtain ⟨k, acc, rfl, hk, hgk, hacc, hal, hown, hb⟩ := hrel
    have hz := hb.size
    by_cases hlt : k < l.length
    · obtain ⟨b, off, ha, c0, c1⟩ := (hl.below (below_next hb1' hb)).topic hlt
      have hnext := belowS_take l key hlt
      rw [← hacc.out] at hnext
      have HN := Lib.hid hnext
      have hFr := (hF.below hb).alloc (.cells #[.string l[k].1, .string l[k].2] 65)
      obtain ⟨v1, ⟨a1, cap1, rfl, hsa1, hc1⟩, hrun1, _⟩ := hFr.look l[k].1
      have hrl := ab_length l l[k].1
      clear hnext
      generalize ab l l[k].1 = r at *
      rw [ha]
      generalize l[k].1 = x1 at *
      generalize l[k].2 = x2 at *
      have hT := Box.new wr 65 #[.string x1, .string x2]
      have hownw := hown.alloc (.cells #[.string x1, .string x2] 65)
      have hbw : Below w1.heap.size w1 (wr.alloc (.cells #[.string x1, .string x2] 65)) := by (repeat' (first | exact Below.refl _ _ | assumption | refine Below.setCell ?_ ?_ _ | refine below_drewN ?_ _ | refine Below.drew ?_ | refine Below.alloc ?_ ?_ _ | (with_reducible refine Below.trans ?_ (Below.mono hb ?_)) | (with_reducible refine Below.trans ?_ (Below.mono hb1 ?_)) | (with_reducible refine Below.trans ?_ (Below.mono hb2 ?_)) | (with_reducible refine Below.trans ?_ (Below.mono hb3 ?_)) | (with_reducible refine Below.trans ?_ (Below.mono hb4 ?_)) | (with_reducible refine Below.trans ?_ (Below.mono hb5 ?_)) | (with_reducible refine Below.trans ?_ (Below.mono hb6 ?_)) | omega | (simp; done) | (simp; omega)))
      go_wp2_with fail
      refine (contains_any r a1 cap1 key _ hsa1 (by omega)).mono ?_
      rintro e w2 ⟨rfl, rfl⟩
      change Hid (_ = acc ++ if hasS r key = true then [x1] else []) at HN
      cases hh : r.any (fun y => decide (y = key))
      · have hn : ((l.take (k + 1)).filter (fun t => hasS (ab l t.1) key)).map (·.1) = acc := by rw [HN.out]; unfold hasS; rw [hh]; simp
        have HN2 := Lib.hid hn
        clear hn hh
        go_wp2_with fail
        rw [← ha]
        go_roundg (l.length - (k + 1))
        case measure => have := hgk.out; omega
        case rel => exact ⟨k + 1, acc, by go_num, by omega, rfl, HN2.out.symm, by have := hal.out; show acc.length ≤ k + 1; omega, hownw, hbw⟩
      · have hn : ((l.take (k + 1)).filter (fun t => hasS (ab l t.1) key)).map (·.1) = acc ++ [x1] := by rw [HN.out]; unfold hasS; rw [hh]; simp
        have HN2 := Lib.hid hn
        clear hn hh
        have hT_l := hT.lt; have hT_0 := hT.cell 0; have hT_1 := hT.cell 1; simp at hT_0 hT_1
        go_upto_region 10 with (at_builtin; refine wpList_append_one rfl _ _ 31 rfl w1.heap.size 9 16 (.string ⟨#[]⟩) Tryd.underlying31 Tryd.infoString rfl _ acc rfl (hownw.alloc _) x1 _ rfl (Box.newAt _ _ _ _ ?c0) ?c1 ?c2 ?c3 ?_; rotate_left 4; intro v' w2 hown2 hg2)
        case c0 => simp
        case c1 => have := hal.out; omega
        case c2 => have := hal.out; omega
        case c3 => simp; omega
        have hb2 : Below w1.heap.size w1 w2 := Below.grown (w := (wr.alloc (.cells #[.string x1, .string x2] 65)).alloc (.cells #[.string x1] 9)) (by (repeat' (first | exact Below.refl _ _ | assumption | refine Below.setCell ?_ ?_ _ | refine below_drewN ?_ _ | refine Below.drew ?_ | refine Below.alloc ?_ ?_ _ | (with_reducible refine Below.trans ?_ (Below.mono hb ?_)) | (with_reducible refine Below.trans ?_ (Below.mono hb1 ?_)) | (with_reducible refine Below.trans ?_ (Below.mono hb2 ?_)) | (with_reducible refine Below.trans ?_ (Below.mono hb3 ?_)) | (with_reducible refine Below.trans ?_ (Below.mono hb4 ?_)) | (with_reducible refine Below.trans ?_ (Below.mono hb5 ?_)) | (with_reducible refine Below.trans ?_ (Below.mono hb6 ?_)) | omega | (simp; done) | (simp; omega)))) hg2 (by simp; omega) (fun k hk => (hownw.lt k hk).1)
        go_wp2_with fail
        rw [← ha]
        go_roundg (l.length - (k + 1))
        case measure => have := hgk.out; omega
        case rel => exact ⟨k + 1, acc ++ [x1], by go_num, by omega, rfl, HN2.out.symm, by have := hal.out; show (acc ++ [x1]).length ≤ k + 1; simp; omega, hown2, hb2⟩
    · obtain rfl : k = l.length := by omega
      have hfin : belowS l key = acc := by rw [hacc.out, List.take_length]; rfl
      have Hfin := Lib.hid hfin
      clear hfin hgk
      go_wp2_with fail
      go_ret2
      exact ⟨below_next hb1' hb, _, acc, rfl, hown.rds, by have := hal.out; omega, fun _ => Hfin.out.symm⟩
end Go.Proofs.YtfpoaggkjhcdnaaDoor
