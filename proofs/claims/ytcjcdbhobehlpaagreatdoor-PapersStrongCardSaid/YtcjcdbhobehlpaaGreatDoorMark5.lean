/- The keys of marks: keys, checked, MarkedPapers, Markers. -/
import Derived.Test.YtcjcdbhobehlpaaGreatDoorMark
import Derived.Test.YtcjcdbhobehlpaaGreatDoorSort
namespace Go.Proofs.YtcjcdbhobehlpaaGreatDoor
open Go.RowKit Go.Sort
set_option linter.unusedVariables false
set_option linter.unusedSimpArgs false

/-- The keys of marks, rising. -/
def keysOf (f : Mark → ByteArray) (l : List Mark) : List ByteArray := keysS (l.map f)
theorem keysOf_length (f : Mark → ByteArray) (l : List Mark) : (keysOf f l).length ≤ l.length := by
 have := keysS_length (l.map f); rw [List.length_map] at this; exact this
theorem keysOf_mem (f : Mark → ByteArray) (l : List Mark) (p : ByteArray) : p ∈ keysOf f l ↔ ∃ x ∈ l, f x = p := by
 unfold keysOf; rw [keysS_mem, List.mem_map]
theorem nodup_len {α : Type} [DecidableEq α] {a b : List α} (h : a.Nodup) (hs : ∀ p ∈ a, p ∈ b) : a.length ≤ b.length := by
 induction a generalizing b with
 | nil => simp
 | cons x r ih =>
  rw [List.nodup_cons] at h
  have hx : x ∈ b := hs x (by simp)
  have h1 := ih h.2 (b := b.erase x) (fun p hp => (List.mem_erase_of_ne (fun (e : p = x) => h.1 (e ▸ hp))).2 (hs p (by simp [hp])))
  rw [List.length_erase_of_mem hx] at h1
  have h2 := List.length_pos_of_mem hx
  simp
  omega

set_option maxHeartbeats 1000000 in
theorem keys_any (b base : Nat) (f : Mark → ByteArray) (l : List Mark) (es : List (ByteArray × Value)) (w : World) (h : MSl w b base f l es) (hlen : l.length ≤ 1000000) (hsz : ∀ x ∈ l, (f x).size ≤ 1000) :
  Calls Tryz.prog 42 #[.map (some b)] w (GivesOwn 9 (keysOf f l) w) := by
 have hmem : ∀ p, p ∈ es.map (·.1) → p ∈ l.map f := fun p hp => by
  obtain ⟨x, hx, e⟩ := (h.keys p).1 hp
  exact List.mem_map.2 ⟨x, hx, e⟩
 have hel : es.length ≤ l.length := by
  have := nodup_len h.nodup hmem
  simpa using this
 have hes : ∀ x ∈ es, x.1.size ≤ 1000000 := fun x hx => by
  obtain ⟨y, hy, e⟩ := (h.keys x.1).1 (List.mem_map_of_mem hx)
  have := hsz y hy
  rw [e] at this
  omega
 obtain ⟨D, hown, hsize, hperm⟩ := h.box.owns h.nodup hes (by omega)
 have hfin : ∀ ss : List (List UInt8), ss.Perm (strKeys D) → (ss.mergeSort fun x y => decide (x ≤ y)).map ofL = keysOf f l := fun ss hss => by
  have hp := hss.trans hperm
  have hnd : ss.Nodup := by
   refine hp.nodup_iff.2 ?_
   refine List.pairwise_map.2 (h.nodup.imp fun {a b} hne e => hne ?_)
   rw [← ofL_toL a, e, ofL_toL]
  refine keysS_is (rise_sorted ss hnd) (fun p => ?_)
  rw [List.mem_map]
  constructor
  ·
   rintro ⟨x, hx, rfl⟩
   rw [List.mem_mergeSort, hp.mem_iff, List.mem_map] at hx
   obtain ⟨q, hq, rfl⟩ := hx
   rw [ofL_toL]
   exact hmem q hq
  ·
   intro hpl
   obtain ⟨x, hx, e⟩ := List.mem_map.1 hpl
   refine ⟨toL p, ?_, ofL_toL p⟩
   rw [List.mem_mergeSort, hp.mem_iff]
   exact List.mem_map_of_mem ((h.keys p).2 ⟨x, hx, e⟩)
 have Hfin := Lib.hid hfin
 have Hlen := Lib.hid hsize
 clear hfin hperm hes hmem h hsize
 refine (callsIn_wide (n := 6)).1 ?_
 have hfK : Fence.wide.fn 59 := trivial
 have hfS : Fence.wide.fn 58 := trivial
 refine callsIn_of_wp Tryz.func42 rfl trivial ?_ rfl
 simp only [Tryz.ntmps42, List.size_toArray, List.length_cons, List.length_nil, Nat.reduceAdd, Nat.reduceSub, Array.replicate_succ, Array.replicate_zero, List.push_toArray, List.append_toArray, List.nil_append, List.cons_append]
 gi_wp2_with (first
  | (gi_at_call 59; refine (Tryz.maps_Keys_59 _ _).mono ?_; rintro e w' ⟨rfl, rfl⟩)
  | (gi_at_call 58; refine (Tryz.slices_Sorted_keys_58_59 b es.length D _ w hown (by rw [Hlen.out]; unfold maxLen; omega) (by rw [Hlen.out]; omega)).mono ?_; rintro e w' ⟨v, ss, rfl, hS, hrow, hnil, hb⟩))
 go_ret
 refine ⟨v, rfl, ?_, ((Below.refl _ w).alloc (Nat.le_refl _) _).trans (hb.mono (by simp))⟩
 rw [← Hfin.out ss hS]
 unfold Own
 rw [← enc_ofL, List.length_map, List.length_mergeSort]
 exact ownsRow_base_a hrow (by simp)

/-- A sheet of marks in memory. -/
def Sheet (w : World) (sb : Nat) (l : List Mark) : Prop := ∃ b1 b2 base a cap es1 es2, ShSt sb b1 b2 base a l.length cap l l es1 es2 w ∧ SA w a l
theorem Sheet.below {w w' : World} {sb : Nat} {l : List Mark} (h : Sheet w sb l) (k : Below w.heap.size w w') : Sheet w' sb l := by
 obtain ⟨b1, b2, base, a, cap, es1, es2, h1, h2⟩ := h
 exact ⟨b1, b2, base, a, cap, es1, es2, h1.below k, h2.below k⟩
/-- What checked gives. -/
def GivesSheet (l : List Mark) (er : Int) (w : World) (e : Ending) (w' : World) : Prop :=
 Below w.heap.size w w' ∧ ((er ≠ 0 ∧ e = .returned (.tuple #[.pointer none, .int .i64 er])) ∨ (er = 0 ∧ ∃ sb, e = .returned (.tuple #[.pointer (some ⟨sb, 0, none⟩), .int .i64 0]) ∧ Sheet w' sb l ∧ w.heap.size ≤ sb))
set_option maxHeartbeats 400000 in
theorem checked_any (l : List Mark) (a : Option Addr) (cap : Nat) (w : World) (hs : SA w a l) (hsl : l.length ≤ 1000000) (hks : ∀ x ∈ l, x.1.size ≤ 1000 ∧ x.2.1.size ≤ 1000) :
  Calls Tryz.prog 23 #[.slice a l.length cap] w (GivesSheet l (marksFault l) w) := by
 have HC := Lib.hid (fun w (hs : SA w a l) => checkMarks_any l a cap w hs hsl hks)
 generalize marksFault l = pf at *
 go_enter Tryz.func23, Tryz.ntmps23
 go_wp2_with fail
 refine (HC.out w hs).mono ?_
 rintro e w1 ⟨rfl, hb1⟩
 by_cases h0 : pf = 0
 ·
  subst h0
  go_wp2_with fail
  refine (sheetOf_any l a cap w1 (hs.below hb1) hsl).mono ?_
  rintro e w2 ⟨es1, es2, rfl, hst, hb2⟩
  have hz := hb1.size
  have hbb := below_next hb1 hb2
  have hsh : Sheet w2 (w1.heap.size + 1 + 1) l := ⟨_, _, _, a, cap, es1, es2, hst, hs.below hbb⟩
  generalize hsb : w1.heap.size + 1 + 1 = sb at *
  have hsb' : w.heap.size ≤ sb := by omega
  clear hst hsb
  go_wp2_with fail
  go_ret2
  exact ⟨hbb, .inr ⟨rfl, sb, rfl, hsh, hsb'⟩⟩
 ·
  have h1 : (pf != 0) = true := by simpa using h0
  have H0 := Lib.hid h0
  clear h0
  go_wp2_with fail
  go_ret2
  exact ⟨hb1, .inl ⟨H0.out, rfl⟩⟩

set_option maxHeartbeats 400000 in
theorem MarkedPapers_any (l : List Mark) (a : Option Addr) (cap : Nat) (w : World) (hs : SA w a l) (hsl : l.length ≤ 1000000) :
  Calls Tryz.prog 16 #[.slice a l.length cap] w (GivesOwn 9 (keysOf (fun x => x.1) l) w) := by
 go_enter Tryz.func16, Tryz.ntmps16
 go_wp2_with fail
 go_loopg [3, 8] l.length (fun gk v i wr => ∃ k : Nat, i = .int .i64 k ∧ k ≤ l.length ∧ Hid (gk = l.length - k) ∧ Own w.heap.size 9 wr v ((l.take k).map (fun x => x.1)) ∧ Below w.heap.size w wr)
 case atStart => exact ⟨0, rfl, by omega, rfl, Own.nil _ _ _, Below.refl _ _⟩
 case round =>
  obtain ⟨k, rfl, hk, hgk, hown, hb⟩ := hrel
  by_cases hlt : k < l.length
  ·
   obtain ⟨b, off, ha, c0, c1, c2⟩ := (hs.below hb).mark hlt
   have htake := List.take_succ_eq_append_getElem hlt
   have hlen : ((l.take k).map (fun x => x.1)).length ≤ 1000000 := by rw [List.length_map, List.length_take]; omega
   have hz := hb.size
   rw [ha]
   generalize hx : l[k] = x at *
   obtain ⟨x1, x2, x3⟩ := x
   simp only at c0 c1 c2
   have Htake := Lib.hid (show (l.take (k + 1)).map (fun x => x.1) = (l.take k).map (fun x => x.1) ++ [(fun x => x.1) (x1, x2, x3)] by rw [htake, List.map_append]; rfl)
   clear hx htake
   simp only at Htake
   generalize (l.take k).map (fun x => x.1) = ls at *
   have hT := (Box.new wr 51 #[.string x1, .string x2, .int .i64 x3])
   have hown1 := (hown.alloc (.cells #[.string x1, .string x2, .int .i64 x3] 51)).alloc (.cells #[.string x1] 9)
   have hbo := Box.newAt (wr.alloc (.cells #[.string x1, .string x2, .int .i64 x3] 51)) (wr.heap.size + 1) 9 #[.string x1] (by simp)
   go_wp2_with (at_builtin; refine wpList_append_lie rfl _ _ 29 rfl 9 16 (.string ⟨#[]⟩) Tryz.underlying29 Tryz.infoString rfl _ ls rfl hown1 x1 (wr.heap.size + 1) rfl hbo (by omega) (by omega) (by simp; omega) ?_; intro gg cap1 w1 hown2 hgrow hat)
   have hb1 : Below w.heap.size w w1 := Below.grown (w := (wr.alloc (.cells #[.string x1, .string x2, .int .i64 x3] 51)).alloc (.cells #[.string x1] 9)) (by (repeat' (first | exact Below.refl _ _ | assumption | refine Below.setCell ?_ ?_ _ | refine below_drewN ?_ _ | refine Below.drew ?_ | refine Below.alloc ?_ ?_ _ | (with_reducible refine Below.trans ?_ (Below.mono hb ?_)) | (with_reducible refine Below.trans ?_ (Below.mono hb0 ?_)) | (with_reducible refine Below.trans ?_ (Below.mono hb1 ?_)) | (with_reducible refine Below.trans ?_ (Below.mono hb2 ?_)) | (with_reducible refine Below.trans ?_ (Below.mono hb3 ?_)) | (with_reducible refine Below.trans ?_ (Below.mono hb4 ?_)) | (with_reducible refine Below.trans ?_ (Below.mono hb5 ?_)) | (with_reducible refine Below.trans ?_ (Below.mono hb6 ?_)) | (with_reducible refine Below.trans ?_ (Below.mono hb7 ?_)) | (with_reducible refine Below.trans ?_ (Below.mono hb8 ?_)) | (with_reducible refine Below.trans ?_ (Below.mono hb9 ?_)) | (with_reducible refine Below.trans ?_ (Below.mono hb10 ?_)) | (with_reducible refine Below.trans ?_ (Below.mono hb11 ?_)) | (with_reducible refine Below.trans ?_ (Below.mono hb12 ?_)) | (with_reducible refine Below.trans ?_ (Below.mono hb13 ?_)) | (with_reducible refine Below.trans ?_ (Below.mono hb14 ?_)) | (with_reducible refine Below.trans ?_ (Below.mono hb15 ?_)) | omega | (simp; done) | (simp; omega)))) hgrow (by simp; omega) (fun j hj => (hown1.lt j hj).1)
   go_wp2_with fail
   rw [← ha]
   go_roundg (l.length - (k + 1))
   case measure => have := hgk.out; omega
   case rel => exact ⟨k + 1, by go_num, by omega, rfl, by rw [Htake.out]; exact hown2, hb1⟩
  ·
   obtain rfl : k = l.length := by omega
   rw [List.take_length] at hown
   obtain ⟨a1, cap1, rfl, hsa, _, _⟩ := hown.sa
   rw [List.length_map]
   clear hlt
   go_wp2_with fail
   have hc := sorted_any (l.map (fun x => x.1)) a1 cap1 wr hsa (by rw [List.length_map]; omega)
   rw [List.length_map] at hc
   refine hc.mono ?_
   rintro e w2 ⟨v2, rfl, hown2, hb2⟩
   go_wp2_with fail
   go_ret
   exact ⟨v2, rfl, hown2.mono hb.size, below_next hb hb2⟩
set_option maxHeartbeats 400000 in
theorem Markers_any (l : List Mark) (a : Option Addr) (cap : Nat) (w : World) (hs : SA w a l) (hsl : l.length ≤ 1000000) :
  Calls Tryz.prog 50 #[.slice a l.length cap] w (GivesOwn 9 (keysOf (fun x => x.2.1) l) w) := by
 go_enter Tryz.func50, Tryz.ntmps50
 go_wp2_with fail
 go_loopg [3, 8] l.length (fun gk v i wr => ∃ k : Nat, i = .int .i64 k ∧ k ≤ l.length ∧ Hid (gk = l.length - k) ∧ Own w.heap.size 9 wr v ((l.take k).map (fun x => x.2.1)) ∧ Below w.heap.size w wr)
 case atStart => exact ⟨0, rfl, by omega, rfl, Own.nil _ _ _, Below.refl _ _⟩
 case round =>
  obtain ⟨k, rfl, hk, hgk, hown, hb⟩ := hrel
  by_cases hlt : k < l.length
  ·
   obtain ⟨b, off, ha, c0, c1, c2⟩ := (hs.below hb).mark hlt
   have htake := List.take_succ_eq_append_getElem hlt
   have hlen : ((l.take k).map (fun x => x.2.1)).length ≤ 1000000 := by rw [List.length_map, List.length_take]; omega
   have hz := hb.size
   rw [ha]
   generalize hx : l[k] = x at *
   obtain ⟨x1, x2, x3⟩ := x
   simp only at c0 c1 c2
   have Htake := Lib.hid (show (l.take (k + 1)).map (fun x => x.2.1) = (l.take k).map (fun x => x.2.1) ++ [(fun x => x.2.1) (x1, x2, x3)] by rw [htake, List.map_append]; rfl)
   clear hx htake
   simp only at Htake
   generalize (l.take k).map (fun x => x.2.1) = ls at *
   have hT := (Box.new wr 51 #[.string x1, .string x2, .int .i64 x3])
   have hown1 := (hown.alloc (.cells #[.string x1, .string x2, .int .i64 x3] 51)).alloc (.cells #[.string x2] 9)
   have hbo := Box.newAt (wr.alloc (.cells #[.string x1, .string x2, .int .i64 x3] 51)) (wr.heap.size + 1) 9 #[.string x2] (by simp)
   go_wp2_with (at_builtin; refine wpList_append_lie rfl _ _ 29 rfl 9 16 (.string ⟨#[]⟩) Tryz.underlying29 Tryz.infoString rfl _ ls rfl hown1 x2 (wr.heap.size + 1) rfl hbo (by omega) (by omega) (by simp; omega) ?_; intro gg cap1 w1 hown2 hgrow hat)
   have hb1 : Below w.heap.size w w1 := Below.grown (w := (wr.alloc (.cells #[.string x1, .string x2, .int .i64 x3] 51)).alloc (.cells #[.string x2] 9)) (by (repeat' (first | exact Below.refl _ _ | assumption | refine Below.setCell ?_ ?_ _ | refine below_drewN ?_ _ | refine Below.drew ?_ | refine Below.alloc ?_ ?_ _ | (with_reducible refine Below.trans ?_ (Below.mono hb ?_)) | (with_reducible refine Below.trans ?_ (Below.mono hb0 ?_)) | (with_reducible refine Below.trans ?_ (Below.mono hb1 ?_)) | (with_reducible refine Below.trans ?_ (Below.mono hb2 ?_)) | (with_reducible refine Below.trans ?_ (Below.mono hb3 ?_)) | (with_reducible refine Below.trans ?_ (Below.mono hb4 ?_)) | (with_reducible refine Below.trans ?_ (Below.mono hb5 ?_)) | (with_reducible refine Below.trans ?_ (Below.mono hb6 ?_)) | (with_reducible refine Below.trans ?_ (Below.mono hb7 ?_)) | (with_reducible refine Below.trans ?_ (Below.mono hb8 ?_)) | (with_reducible refine Below.trans ?_ (Below.mono hb9 ?_)) | (with_reducible refine Below.trans ?_ (Below.mono hb10 ?_)) | (with_reducible refine Below.trans ?_ (Below.mono hb11 ?_)) | (with_reducible refine Below.trans ?_ (Below.mono hb12 ?_)) | (with_reducible refine Below.trans ?_ (Below.mono hb13 ?_)) | (with_reducible refine Below.trans ?_ (Below.mono hb14 ?_)) | (with_reducible refine Below.trans ?_ (Below.mono hb15 ?_)) | omega | (simp; done) | (simp; omega)))) hgrow (by simp; omega) (fun j hj => (hown1.lt j hj).1)
   go_wp2_with fail
   rw [← ha]
   go_roundg (l.length - (k + 1))
   case measure => have := hgk.out; omega
   case rel => exact ⟨k + 1, by go_num, by omega, rfl, by rw [Htake.out]; exact hown2, hb1⟩
  ·
   obtain rfl : k = l.length := by omega
   rw [List.take_length] at hown
   obtain ⟨a1, cap1, rfl, hsa, _, _⟩ := hown.sa
   rw [List.length_map]
   clear hlt
   go_wp2_with fail
   have hc := sorted_any (l.map (fun x => x.2.1)) a1 cap1 wr hsa (by rw [List.length_map]; omega)
   rw [List.length_map] at hc
   refine hc.mono ?_
   rintro e w2 ⟨v2, rfl, hown2, hb2⟩
   go_wp2_with fail
   go_ret
   exact ⟨v2, rfl, hown2.mono hb.size, below_next hb hb2⟩
end Go.Proofs.YtcjcdbhobehlpaaGreatDoor
