/- The strengths of ways: StrongestOf of the reference. -/
import Derived.Test.YtcjcdbhobehlpaaGreatDoorStr1
import Derived.Test.YtcjcdbhobehlpaaGreatDoorStabQ
import Derived.Test.YtcjcdbhobehlpaaGreatDoorMapH
import Derived.Laws.EntriesVeiled
namespace Go.Proofs.YtcjcdbhobehlpaaGreatDoor
open Go.RowKit
set_option linter.unusedVariables false
set_option linter.unusedSimpArgs false

/-- A map of pairs of papers holds a table. -/
def GS (w : World) (b : Nat) (ks : List ByteArray) (S : Nat → Nat → Int) : Prop :=
 ∃ es, GBox enc2 ok2 w b es ∧ ∀ a c, (gget es (a, c)).getD (.int .i64 0) = .int .i64 (if ixOf ks a < ks.length ∧ ixOf ks c < ks.length then S (ixOf ks a) (ixOf ks c) else 0)
theorem GS.lt {w : World} {b : Nat} {ks : List ByteArray} {S : Nat → Nat → Int} (h : GS w b ks S) : b < w.heap.size := by obtain ⟨es, h, _⟩ := h; exact h.lt
theorem GS.same {w w' : World} {b : Nat} {ks : List ByteArray} {S : Nat → Nat → Int} (h : GS w b ks S) (k : w'.heap[b]? = w.heap[b]?) : GS w' b ks S := by obtain ⟨es, h1, h2⟩ := h; exact ⟨es, h1.same k, h2⟩
theorem GS.below {w w' : World} {b : Nat} {ks : List ByteArray} {S : Nat → Nat → Int} (h : GS w b ks S) (k : Below w.heap.size w w') : GS w' b ks S := h.same (k.block _ h.lt)
theorem GS.new (w : World) (ks : List ByteArray) : GS (w.alloc (.map #[] 0)) w.heap.size ks (fun _ _ => 0) := ⟨[], GBox.new _ _ _, fun a c => by rw [show gget ([] : List (Two × Value)) (a, c) = none from rfl]; simp⟩
theorem GS.newAt (w : World) (ks : List ByteArray) (n : Nat) (h : n = w.heap.size) : GS (w.alloc (.map #[] 0)) n ks (fun _ _ => 0) := by subst h; exact GS.new w ks
theorem GS.alloc {w : World} {b : Nat} {ks : List ByteArray} {S : Nat → Nat → Int} (h : GS w b ks S) (o : Obj) : GS (w.alloc o) b ks S := h.below ((Below.refl _ _).alloc (Nat.le_refl _) o)
theorem GS.congr {w : World} {b : Nat} {ks : List ByteArray} {S S' : Nat → Nat → Int} (h : GS w b ks S) (hS : ∀ a c, a < ks.length → c < ks.length → S a c = S' a c) : GS w b ks S' := by
 obtain ⟨es, h1, h2⟩ := h
 refine ⟨es, h1, fun a c => ?_⟩
 rw [h2]
 by_cases e : ixOf ks a < ks.length ∧ ixOf ks c < ks.length
 ·
  rw [if_pos e, if_pos e, hS _ _ e.1 e.2]
 ·
  rw [if_neg e, if_neg e]
theorem GS.look {w : World} {b : Nat} {ks : List ByteArray} {S : Nat → Nat → Int} (h : GS w b ks S) (hn : ks.Nodup) (hz : ∀ x ∈ ks, x.size ≤ 1000) {i k : Nat} (hi : i < ks.length) (hk : k < ks.length) :
  (Instr.lookup 78 (.map (some b)) (.agg #[.string ks[i], .string ks[k]]) false).run Tryz.prog w = .ok (.int .i64 (S i k)) w := by
 obtain ⟨es, h1, h2⟩ := h
 have hl := GBox.look h1 keysA Tryz.underlying78 (.int .i64 0) Tryz.zeroI (ks[i], ks[k]) ⟨by have := hz _ (List.getElem_mem hi); show ks[i].size ≤ _; omega, by have := hz _ (List.getElem_mem hk); show ks[k].size ≤ _; omega⟩ false
 have h3 := h2 ks[i] ks[k]
 rw [ixOf_at hn hi, ixOf_at hn hk, if_pos ⟨hi, hk⟩] at h3
 unfold glooked at hl
 rw [if_neg (by decide), h3] at hl
 exact hl
theorem GS.put {x y : ByteArray} {v : Int} {w' : World} {b : Nat} {ks : List ByteArray} {S : Nat → Nat → Int} {es : List (Two × Value)} (h : GBox enc2 ok2 w' b (gput es (x, y) (.int .i64 v))) (h2 : ∀ a c, (gget es (a, c)).getD (.int .i64 0) = .int .i64 (if ixOf ks a < ks.length ∧ ixOf ks c < ks.length then S (ixOf ks a) (ixOf ks c) else 0)) (hn : ks.Nodup) {i k : Nat} (hi : i < ks.length) (hk : k < ks.length) (hx : x = ks[i]) (hy : y = ks[k]) : GS w' b ks (updM S i k v) := by
 refine ⟨_, h, fun a c => ?_⟩
 rw [gget_gput]
 subst hx hy
 by_cases e : (ks[i], ks[k]) = (a, c)
 ·
  rw [if_pos e]
  cases e
  rw [ixOf_at hn hi, ixOf_at hn hk, if_pos ⟨hi, hk⟩, updM_same]
  rfl
 ·
  rw [if_neg e, h2]
  by_cases e2 : ixOf ks a < ks.length ∧ ixOf ks c < ks.length
  ·
   rw [if_pos e2, if_pos e2, updM_other (fun e3 => e (by rw [← ixOf_eq hi e3.1, ← ixOf_eq hk e3.2]))]
  ·
   rw [if_neg e2, if_neg e2]
/-- One paper is stronger than another. -/
def gtB (ks : List ByteArray) (S : Nat → Nat → Int) (x y : ByteArray) : Bool := decide (S (ixOf ks y) (ixOf ks x) < S (ixOf ks x) (ixOf ks y))
theorem cnt_list {ks : List ByteArray} (hn : ks.Nodup) (S : Nat → Nat → Int) {x : ByteArray} (hx : x ∈ ks) : ∀ k, k ≤ ks.length → (ks.take k).countP (gtB ks S x) = cntTo S (ixOf ks x) k
 | 0, _ => by rw [List.take_zero]; rfl
 | k + 1, hk => by
  have hkl : k < ks.length := by omega
  have ih := cnt_list hn S hx k (by omega)
  rw [List.take_succ_eq_append_getElem hkl, List.countP_append, ih]
  show _ = cntTo S (ixOf ks x) k + (if S k (ixOf ks x) < S (ixOf ks x) k then 1 else 0)
  congr 1
  rw [List.countP_cons, List.countP_nil]
  unfold gtB
  rw [ixOf_at hn hkl]
  by_cases e : S k (ixOf ks x) < S (ixOf ks x) k
  ·
   rw [if_pos e, decide_eq_true e]; rfl
  ·
   rw [if_neg e, decide_eq_false e]; rfl
theorem cnt_perm {ks s : List ByteArray} (hn : ks.Nodup) (S : Nat → Nat → Int) {x : ByteArray} (hx : x ∈ ks) (hp : s.Perm ks) : ((s.countP (gtB ks S x) : Nat) : Int) = strW ks S ks.length 0 x := by
 have h := cnt_list hn S hx ks.length (Nat.le_refl _)
 rw [List.take_length] at h
 rw [hp.countP_eq, h]
 unfold strW
 rw [if_pos (ixOf_lt hx)]
set_option maxRecDepth 100000 in
set_option maxHeartbeats 2000000 in
theorem countR_any (bP bS mb : Nat) (ks s : List ByteArray) (sa : Option Addr) (sc : Nat) (S : Nat → Nat → Int) (x : ByteArray) (W : World) (hP : W.cell? ⟨bP, 0, none⟩ = some (.slice sa s.length sc)) (hS : W.cell? ⟨bS, 0, none⟩ = some (.map (some mb))) (hs : SA W sa s) (hp : s.Perm ks) (hG : GS W mb ks S) (hn : ks.Nodup) (hz : ∀ x ∈ ks, x.size ≤ 1000) (hl : ks.length ≤ 1000) (hx : x ∈ ks) :
  Calls Tryz.prog 34 #[.string x, .pointer (some ⟨bP, 0, none⟩), .pointer (some ⟨bS, 0, none⟩)] W (Gives (.int .i64 (strW ks S ks.length 0 x)) W) := by
 have HR := Lib.hid (cnt_perm hn S hx hp)
 have hsl : s.length ≤ 1000 := by rw [hp.length_eq]; exact hl
 have HT : Hid (s.countP (gtB ks S x) = (s.take s.length).countP (gtB ks S x)) := by show _ = _; rw [List.take_length]
 generalize strW ks S ks.length 0 x = R at *
 obtain ⟨i, hi, rfl⟩ := List.mem_iff_getElem.1 hx
 have HLK : Hid (∀ y ∈ s, ∀ W', Below W.heap.size W W' → (Instr.lookup 78 (.map (some mb)) (.agg #[.string ks[i], .string y]) false).run Tryz.prog W' = .ok (.int .i64 (S i (ixOf ks y))) W' ∧ (Instr.lookup 78 (.map (some mb)) (.agg #[.string y, .string ks[i]]) false).run Tryz.prog W' = .ok (.int .i64 (S (ixOf ks y) i)) W') := fun y hy W' hW => by
  obtain ⟨k, hk, rfl⟩ := List.mem_iff_getElem.1 (hp.mem_iff.1 hy)
  rw [ixOf_at hn hk]
  exact ⟨(hG.below hW).look hn hz hi hk, (hG.below hW).look hn hz hk hi⟩
 have Hgt : Hid (∀ y, gtB ks S ks[i] y = decide (S (ixOf ks y) i < S i (ixOf ks y))) := fun y => by unfold gtB; rw [ixOf_at hn hi]
 clear hG hn hz hx hp
 generalize gtB ks S ks[i] = q at *
 generalize ks[i] = x at *
 go_enter Tryz.func34, Tryz.ntmps34
 go_wp2_with fail
 go_loopg [10, 5] s.length (fun gk iv nv wr => ∃ k : Nat, iv = .int .i64 k ∧ nv = .int .i64 ((s.take k).countP q : Nat) ∧ k ≤ s.length ∧ Hid (gk = s.length - k) ∧ Below W.heap.size W wr)
 case atStart => exact ⟨0, rfl, by rw [List.take_zero]; rfl, by omega, rfl, Below.refl _ _⟩
 case round =>
  obtain ⟨k, rfl, rfl, hk, hgk, hb⟩ := hrel
  by_cases hkl : k < s.length
  ·
   obtain ⟨pb, po, hpa, e0⟩ := (hs.below hb).str hkl
   have Hpa := Lib.hid hpa
   rw [hpa]
   clear hpa
   obtain ⟨hl1, hl2⟩ := HLK.out s[k] (List.getElem_mem hkl) _ hb
   have hb' : Below W.heap.size W wr.drew := hb.drew
   obtain ⟨hl3, hl4⟩ := HLK.out s[k] (List.getElem_mem hkl) _ hb'
   have Hst : Hid ((s.take (k + 1)).countP q = (s.take k).countP q + if q s[k] = true then 1 else 0) := by
    show _ = _
    rw [List.take_succ_eq_append_getElem hkl, List.countP_append, List.countP_cons, List.countP_nil, Nat.zero_add]
   have hcl : (s.take k).countP q ≤ k := by
    have := List.countP_le_length (p := q) (l := s.take k)
    rw [List.length_take] at this
    omega
   have hgt := Hgt.out s[k]
   rw [hgt] at Hst
   have hcS := cell_later hb hS
   generalize s[k] = y at *
   generalize S i (ixOf ks y) = v1 at *
   generalize S (ixOf ks y) i = v2 at *
   generalize (s.take k).countP q = N at *
   clear hgt
   by_cases hxy : v2 < v1
   ·
    rw [decide_eq_true hxy, if_pos rfl] at Hst
    have hd : decide (v2 < v1) = true := decide_eq_true hxy
    have hw1 : IntKind.i64.wrap ((N : Int) + 1) = ((N + 1 : Nat) : Int) := by rw [IntWalk.i64_in _ (by omega)]; omega
    clear hxy
    go_upto_region 5 with (fail)
    refine wp_region_held_drew (S := (fun wx => wx.cell? ⟨bS, 0, none⟩ = some (.map (some mb)) ∧ (Instr.lookup 78 (.map (some mb)) (.agg #[.string x, .string y]) false).run Tryz.prog wx = .ok (.int .i64 v1) wx ∧ (Instr.lookup 78 (.map (some mb)) (.agg #[.string y, .string x]) false).run Tryz.prog wx = .ok (.int .i64 v2) wx)) (by kernel_rfl) ?hS (fun hHeld => ?_)
    case hS => exact ⟨hcS, hl3, hl4⟩
    refine rt 0 (some 14) ?_
    refine rt 1 (some 15) ?_
    refine rt 2 (some 16) ?_
    refine rt 3 (some 17) ?_
    refine rt 4 (some 18) ?_
    refine rt 5 (some 19) ?_
    refine rt 6 (some 20) ?_
    refine rt 7 (some 21) ?_
    refine rt 8 (some 22) ?_
    refine rt 9 (some 23) ?_
    refine rt 10 (some 24) ?_
    refine wpAnyH_done (by kernel_rfl) ?_ _
    have hb2 := hb.drew
    clear hHeld hl1 hl2 hl3 hl4
    go_wp2_with fail
    rw [← Hpa.out]
    go_roundg (s.length - (k + 1))
    case measure => have := hgk.out; omega
    case rel => exact ⟨k + 1, by go_num, by rw [Hst.out]; (congr 1 <;> omega), by omega, rfl, hb2⟩
   ·
    rw [decide_eq_false hxy, if_neg (by decide), Nat.add_zero] at Hst
    have hd : decide (v2 < v1) = false := decide_eq_false hxy
    clear hxy
    go_upto_region 5 with (fail)
    refine wp_region_held_drew (S := (fun wx => wx.cell? ⟨bS, 0, none⟩ = some (.map (some mb)) ∧ (Instr.lookup 78 (.map (some mb)) (.agg #[.string x, .string y]) false).run Tryz.prog wx = .ok (.int .i64 v1) wx ∧ (Instr.lookup 78 (.map (some mb)) (.agg #[.string y, .string x]) false).run Tryz.prog wx = .ok (.int .i64 v2) wx)) (by kernel_rfl) ?hS (fun hHeld => ?_)
    case hS => exact ⟨hcS, hl3, hl4⟩
    refine rt 0 (some 14) ?_
    refine rt 1 (some 15) ?_
    refine rt 2 (some 16) ?_
    refine rt 3 (some 17) ?_
    refine rt 4 (some 18) ?_
    refine rt 5 (some 19) ?_
    refine rt 6 (some 20) ?_
    refine rt 7 (some 21) ?_
    refine rt 8 (some 22) ?_
    refine rt 9 (some 23) ?_
    refine rt 10 (some 24) ?_
    refine wpAnyH_done (by kernel_rfl) ?_ _
    have hb2 := hb.drew
    clear hHeld hl1 hl2 hl3 hl4
    go_wp2_with fail
    rw [← Hpa.out]
    go_roundg (s.length - (k + 1))
    case measure => have := hgk.out; omega
    case rel => exact ⟨k + 1, by go_num, by rw [Hst.out, Nat.add_zero], by omega, rfl, hb2⟩
  ·
   obtain rfl : k = s.length := by omega
   rw [← HT.out, HR.out]
   go_wp2_with fail
   go_ret
   exact ⟨rfl, hb⟩
set_option maxRecDepth 100000 in
theorem stCloR_any (bC bP bS : Nat) (C : ByteArray → Int) (x y : ByteArray) (W : World) (hC : W.cell? ⟨bC, 0, none⟩ = some (.func (.func 34) #[] #[.pointer (some ⟨bP, 0, none⟩), .pointer (some ⟨bS, 0, none⟩)]))
  (hc : ∀ z, (z = x ∨ z = y) → ∀ W', Below W.heap.size W W' → Calls Tryz.prog 34 #[.string z, .pointer (some ⟨bP, 0, none⟩), .pointer (some ⟨bS, 0, none⟩)] W' (Gives (.int .i64 (C z)) W')) :
  Calls Tryz.prog 35 #[.string x, .string y, .pointer (some ⟨bC, 0, none⟩)] W (Gives (.int .i64 (cmpC C x y)) W) := by
 have HC : Hid (cmpC C x y = Lib.compareInt (C y) (C x)) := rfl
 have HI := Lib.hid (fun W => Tryz.cmp_Compare_int (C y) (C x) W)
 have HX := Lib.hid (hc x (.inl rfl))
 have HY := Lib.hid (hc y (.inr rfl))
 generalize cmpC C x y = R at *
 generalize C y = c1 at *
 generalize C x = c2 at *
 clear hc
 go_enter Tryz.func35, Tryz.ntmps35
 go_upto_region 1 with (fail)
 refine wp_region_held_drew (S := (fun wx => wx.cell? ⟨bC, 0, none⟩ = some (.func (.func 34) #[] #[.pointer (some ⟨bP, 0, none⟩), .pointer (some ⟨bS, 0, none⟩)]) ∧ Below W.heap.size W wx)) (by kernel_rfl) ?hS (fun hHeld => ?_)
 case hS => exact ⟨hC, (Below.refl _ _).drew⟩
 refine rt 0 (some 6) ?_
 refine rt 1 (some 7) ?_
 refine rt 3 (some 9) ?_
 refine rt 4 (some 10) ?_
 refine rcall (i := 2) (d := (some 8)) (by kernel_rfl) rfl (by kernel_rfl) (fun K hK => ?_)
 go_simp
 go_at_call 34; refine (HY.out _ hHeld.2).mono ?_; rintro e w1 ⟨rfl, hb1⟩
 refine hK.out _ _ ?hS (fun hHeld => ?_)
 case hS => exact ⟨cell_later hb1 hHeld.1, below_next hHeld.2 hb1⟩
 clear hK K
 simp only [Act.put, lsetA, lsetZ, lsetS]
 refine rcall (i := 5) (d := (some 11)) (by kernel_rfl) rfl (by kernel_rfl) (fun K hK => ?_)
 go_simp
 go_at_call 34; refine (HX.out _ hHeld.2).mono ?_; rintro e w1 ⟨rfl, hb1⟩
 refine hK.out _ _ ?hS (fun hHeld => ?_)
 case hS => exact ⟨cell_later hb1 hHeld.1, below_next hHeld.2 hb1⟩
 clear hK K
 simp only [Act.put, lsetA, lsetZ, lsetS]
 refine rcall (i := 6) (d := (some 12)) (by kernel_rfl) rfl (by kernel_rfl) (fun K hK => ?_)
 go_simp
 go_at_call 28; refine (HI.out _).mono ?_; rintro e w1 ⟨rfl, rfl⟩
 refine hK.out _ _ ?hS (fun hHeld => ?_)
 case hS => exact hHeld
 clear hK K
 simp only [Act.put, lsetA, lsetZ, lsetS]
 refine rt 7 (some 5) ?_
 refine wpAnyH_done (by kernel_rfl) ?_ _
 have hfin := hHeld.2
 go_wp2_with fail
 go_ret
 exact ⟨by rw [HC.out] <;> rfl, hfin⟩
theorem rowOf_getS (l : List Mark) (ks : List ByteArray) {i k : Nat} (hi : i < ks.length) (hk : k < ks.length) : (rowOf l ks i).getD k 0 = winsN l ks[i] ks[k] := by
 unfold rowOf
 rw [List.getD_eq_getElem?_getD, List.getElem?_map, List.getElem?_eq_getElem hk, List.getD_eq_getElem?_getD, List.getElem?_eq_getElem hi]
 rfl
theorem edgI_at (l : List Mark) (ks : List ByteArray) {i k : Nat} (hi : i < ks.length) (hk : k < ks.length) : edgI l ks i k = if winsN l ks[k] ks[i] < winsN l ks[i] ks[k] then winsN l ks[i] ks[k] else 0 := by
 unfold edgI
 rw [rowOf_getS l ks hi hk, rowOf_getS l ks hk hi]
theorem strW_sameS {ks : List ByteArray} {f g : Nat → Nat → Int} (h : ∀ a c, a < ks.length → c < ks.length → a ≠ c → f a c = g a c) {x : ByteArray} (hx : x ∈ ks) : strW ks f ks.length 0 x = strW ks g ks.length 0 x := by
 unfold strW
 rw [if_pos (ixOf_lt hx), if_pos (ixOf_lt hx), cntTo_same (ixOf_lt hx) h _ (Nat.le_refl _)]
/-- The sort looks at these strings alone. -/
theorem isort_strong {ks : List ByteArray} (hn : ks.Nodup) {f g : Nat → Nat → Int} (h : ∀ a c, a < ks.length → c < ks.length → a ≠ c → f a c = g a c) : isort (cmpC (strW ks g ks.length 0)) ks = isort (cmpC (strW ks f ks.length 0)) ks := by
 refine isort_same _ _ ks hn (fun i q hi hq => ?_)
 unfold cmpC
 rw [strW_sameS h (List.getElem_mem hi), strW_sameS h (List.getElem_mem (by omega))]
set_option maxRecDepth 100000 in
set_option maxHeartbeats 8000000 in
theorem strongestOf_any (l : List Mark) (a : Option Addr) (cap : Nat) (w : World) (hs : SA w a l) (hl : l.length ≤ 400) (hks : ∀ x ∈ l, x.1.size ≤ 1000 ∧ x.2.1.size ≤ 1000) (hkn : (keysOf (fun x => x.1) l).length ≤ 19) :
  Calls Tryz.prog 13 #[.slice a l.length cap] w (GivesOwn 9 (strongL l) w) := by
 obtain ⟨ks, hkk⟩ : ∃ ks, keysOf (fun x => x.1) l = ks := ⟨_, rfl⟩
 have Hnd : Hid ks.Nodup := by show ks.Nodup; rw [← hkk]; exact (keysS_rise _).nodup
 have Hsz : Hid (∀ x ∈ ks, x.size ≤ 1000) := fun x hx => by
  rw [← hkk, keysOf_mem] at hx
  obtain ⟨y, hy, rfl⟩ := hx
  exact (hks y hy).1
 have HL : Hid (∀ S : Nat → Nat → Int, (∀ a c, a < ks.length → c < ks.length → a ≠ c → fwM (edgI l ks) ks.length ks.length a c = S a c) → isort (cmpC (strW ks S ks.length 0)) ks = strongL l) := fun S h => by
  unfold strongL
  rw [hkk]
  exact isort_strong Hnd.out h
 have HMP := Lib.hid (MarkedPapers_any l a cap w hs (by omega))
 rw [hkk] at HMP hkn
 have HWO := Lib.hid (fun x y W (h : Below w.heap.size w W) => winsOf_any l a cap x y W (hs.below h) hl)
 have HED := Lib.hid (fun i k (hi : i < ks.length) (hk : k < ks.length) => edgI_at l ks hi hk)
 have HEB := Lib.hid (edgI_low l ks)
 generalize strongL l = out at *
 have hml : (l.length : Int) ≤ 400 := by omega
 generalize edgI l ks = E at *
 clear hkk hs hks
 have hmm := @run_makeMap Tryz.prog
 go_enter Tryz.func13, Tryz.ntmps13
 go_wp2_with fail
 refine HMP.out.mono ?_
 rintro e w1 ⟨vk, rfl, hownk, hb1⟩
 obtain ⟨ka, kc, rfl, hsk, hka, -⟩ := hownk.form
 go_upto_region 3 with (fail)
 have hP0 := ((Box.new w1 29 #[.slice ka ks.length kc]).alloc (.map #[] 0)).alloc (.cells #[.map (some (w1.heap.size + 1))] 78)
 have hG0 := (GS.newAt (w1.alloc (.cells #[.slice ka ks.length kc] 29)) ks (w1.heap.size + 1) (by simp)).alloc (.cells #[.map (some (w1.heap.size + 1))] 78)
 have hS0 := Box.newAt ((w1.alloc (.cells #[.slice ka ks.length kc] 29)).alloc (.map #[] 0)) (w1.heap.size + 1 + 1) 78 #[.map (some (w1.heap.size + 1))] (by simp)
 have hb2 : Below w1.heap.size w1 (((w1.alloc (.cells #[.slice ka ks.length kc] 29)).alloc (.map #[] 0)).alloc (.cells #[.map (some (w1.heap.size + 1))] 78)) := (((Below.refl _ _).alloc (Nat.le_refl _) _).alloc (by simp) _).alloc (by simp; omega) _
 have hm1 : w1.heap.size < w1.heap.size + 1 := by omega
 have hm2 : w1.heap.size + 1 < w1.heap.size + 1 + 1 := by omega
 clear hmm
 generalize ((w1.alloc (.cells #[.slice ka ks.length kc] 29)).alloc (.map #[] 0)).alloc (.cells #[.map (some (w1.heap.size + 1))] 78) = w2 at *
 generalize w1.heap.size + 1 + 1 = bS at *
 generalize w1.heap.size + 1 = mb at *
 obtain ⟨bP, hbP⟩ : ∃ bP, bP = w1.heap.size := ⟨_, rfl⟩
 rw [← hbP] at hP0
 rw [← hbP]
 have hPm : bP < mb := by omega
 have hm3 : w1.heap.size ≤ mb := by omega
 have hm4 : w1.heap.size ≤ bP := by omega
 clear hbP hm1
 have hG1 := hG0.congr (S' := initTo E 0 0) (fun a c _ _ => by unfold initTo; rw [if_neg (by omega)])
 have HSK := Lib.hid (fun W (h : Below w1.heap.size w1 W) => hsk.below h)
 have HB1 := Lib.hid hb1
 clear hG0 hsk
 have hpc := hP0.cell 0
 simp at hpc
 go_wp2_with fail
 clear hpc
 go_loopg [23] ks.length (fun gk iv wr => ∃ i : Nat, iv = .int .i64 i ∧ i ≤ ks.length ∧ Hid (gk = ks.length - i) ∧ GS wr mb ks (initTo E i 0) ∧ Box wr bP 29 #[.slice ka ks.length kc] ∧ Box wr bS 78 #[.map (some mb)] ∧ Below w1.heap.size w1 wr)
 case atStart => exact ⟨0, rfl, by omega, rfl, hG1, hP0, hS0, hb2⟩
 case round =>
  clear hG1 hP0 hS0 hb2
  obtain ⟨i, rfl, hi, hgi, hG, hP, hS, hb⟩ := hrel
  by_cases hil : i < ks.length
  ·
   obtain ⟨pb, po, hpa, e0⟩ := (HSK.out _ hb).str hil
   have Hpa := Lib.hid hpa
   rw [hpa] at hP
   rw [hpa]
   clear hpa
   have hpc := hP.cell 0
   simp at hpc
   have HPI : Hid (∀ (W : World), Box W bP 29 #[.slice ka ks.length kc] → Box W bP 29 #[.slice (some ⟨pb, po, none⟩) ks.length kc]) := fun W h => by rw [← Hpa.out]; exact h
   go_wp2_with fail
   clear e0 hpc
   go_loopg [29] ks.length (fun gk kv wr => ∃ k : Nat, kv = .int .i64 k ∧ k ≤ ks.length ∧ Hid (gk = ks.length - k) ∧ GS wr mb ks (initTo E i k) ∧ Box wr bP 29 #[.slice (some ⟨pb, po, none⟩) ks.length kc] ∧ Box wr bS 78 #[.map (some mb)] ∧ Below w1.heap.size w1 wr)
   case atStart => exact ⟨0, rfl, by omega, rfl, hG, hP, hS, hb⟩
   case round =>
    clear hG hP hS hb
    obtain ⟨k, rfl, hk, hgk, hG, hP, hS, hb⟩ := hrel
    by_cases hkl : k < ks.length
    ·
     obtain ⟨pb', po', hpa', e0⟩ := (HSK.out _ hb).str hkl
     rw [Hpa.out] at hpa'
     cases hpa'
     have HE := Lib.hid (HED.out i k hil hkl)
     by_cases hik : i = k
     ·
      subst hik
      have HE2 : Hid (E i i = 0) := by show _ = _; rw [HE.out, if_neg (by omega)]
      have e1 := tl_eq (rfl : ks[i] = ks[i])
      have e2 := tl_eq' (rfl : ks[i] = ks[i])
      have HG4 := Lib.hid (hG.congr (S' := initTo E i (i + 1)) (fun a c _ _ => by
       unfold initTo
       by_cases e2 : a < i ∨ (a = i ∧ c < i)
       ·
        rw [if_pos e2, if_pos (by omega)]
       ·
        rw [if_neg e2]
        by_cases e : a = i ∧ c = i
        ·
         rw [if_pos (by omega), e.1, e.2, HE2.out]
        ·
         rw [if_neg (by omega)]))
      clear HE hG
      generalize ks[i] = p at *
      go_wp2_with fail
      go_roundg (ks.length - (i + 1))
      case measure => have := hgk.out; omega
      case rel => exact ⟨i + 1, by go_num, by omega, rfl, HG4.out, hP, hS, hb⟩
     ·
      have hne : ¬ ks[i] = ks[k] := fun e => by
       have h1 := ixOf_at Hnd.out hil
       have h2 := ixOf_at Hnd.out hkl
       rw [e] at h1
       omega
      have e1 := tl_ne hne
      have e2 := tl_ne' hne
      have e3 : ¬ ks[i].toList = ks[k].toList := fun h => hne (toList_inj.1 h)
      have hbw := below_next HB1.out hb
      have HC1 := Lib.hid (HWO.out ks[i] ks[k] wr hbw)
      obtain ⟨es, hE, hEv⟩ := hG
      have HEV := Lib.hid hEv
      have HPUT := Lib.hid (fun w' v (h : GBox enc2 ok2 w' mb (gput es (ks[i], ks[k]) (.int .i64 v))) => GS.put h hEv Hnd.out hil hkl rfl rfl)
      have hok : ok2 (ks[i], ks[k]) := ⟨by have := Hsz.out _ (List.getElem_mem hil); show ks[i].size ≤ _; omega, by have := Hsz.out _ (List.getElem_mem hkl); show ks[k].size ≤ _; omega⟩
      clear hEv hne hik
      generalize ks[i] = p at *
      generalize ks[k] = q at *
      have HW2 := Lib.hid (fun W h => HWO.out q p W h)
      have HW1 := Lib.hid (fun W h => HWO.out p q W h)
      generalize winsN l p q = x at *
      generalize winsN l q p = y at *
      go_wp2_with fail
      refine HC1.out.mono ?_
      rintro e w3 ⟨rfl, hb3⟩
      have hbw3 := below_next hbw hb3
      go_wp2_with fail
      refine (HW2.out _ hbw3).mono ?_
      rintro e w4 ⟨rfl, hb4⟩
      have hb14 := below_next hb (below_next hb3 hb4)
      have hbw4 := below_next hbw3 hb4
      have hE4 := (hE.below hb3).below hb4
      have hP4 := (hP.below hb3).below hb4
      have hS4 := (hS.below hb3).below hb4
      clear hE hP hS hb hb3 hb4 hbw3 hbw HC1 e0
      by_cases hxy : y < x
      ·
       have HE2 : Hid (E i k = x) := by show _ = _; rw [HE.out, if_pos hxy]
       have hd : decide (y < x) = true := decide_eq_true hxy
       clear HE hxy
       have hsc := hS4.cell 0
       simp at hsc
       go_upto_region 10 with (fail)
       refine wp_regionF (S := (fun wx => wx.cell? ⟨bS, 0, none⟩ = some (.map (some mb)) ∧ Below w4.heap.size w4 wx)) 8 (by kernel_rfl) ?hS (fun hHeld => ?_)
       case hS => exact ⟨hsc, (Below.refl _ _).drew⟩
       refine rtakeF (i := 0) (d := (some 47)) (v := ?_) (n := 40) rfl (by kernel_rfl) (by kernel_rfl) (by kernel_rfl) (by kernel_rfl) (by kernel_rfl) (by kernel_rfl) (fun _ _ _ h => h) (by kernel_rfl) (by assumption) ?_ ?_
       rotate_left 1
       ·
        (intro wI hSI; (try dsimp only at hSI); go_simp; (try with_reducible rfl))
       simp only [Act.put, lsetA, lsetZ, lsetS]
       refine rtakeF (i := 1) (d := (some 48)) (v := ?_) (n := 40) rfl (by kernel_rfl) (by kernel_rfl) (by kernel_rfl) (by kernel_rfl) (by kernel_rfl) (by kernel_rfl) (fun _ _ _ h => h) (by kernel_rfl) (by assumption) ?_ ?_
       rotate_left 1
       ·
        (intro wI hSI; (try dsimp only at hSI); go_simp; (try with_reducible rfl))
       simp only [Act.put, lsetA, lsetZ, lsetS]
       refine rtakeF (i := 2) (d := (some 49)) (v := ?_) (n := 40) rfl (by kernel_rfl) (by kernel_rfl) (by kernel_rfl) (by kernel_rfl) (by kernel_rfl) (by kernel_rfl) (fun _ _ _ h => h) (by kernel_rfl) (by assumption) ?_ ?_
       rotate_left 1
       ·
        (intro wI hSI; (try dsimp only at hSI); go_simp; (try with_reducible rfl))
       simp only [Act.put, lsetA, lsetZ, lsetS]
       refine rtakeF (i := 3) (d := (some 50)) (v := ?_) (n := 40) rfl (by kernel_rfl) (by kernel_rfl) (by kernel_rfl) (by kernel_rfl) (by kernel_rfl) (by kernel_rfl) (fun _ _ _ h => h) (by kernel_rfl) (by assumption) ?_ ?_
       rotate_left 1
       ·
        (intro wI hSI; (try dsimp only at hSI); go_simp; (try with_reducible rfl))
       simp only [Act.put, lsetA, lsetZ, lsetS]
       refine rtakeF (i := 4) (d := (some 51)) (v := ?_) (n := 40) rfl (by kernel_rfl) (by kernel_rfl) (by kernel_rfl) (by kernel_rfl) (by kernel_rfl) (by kernel_rfl) (fun _ _ _ h => h) (by kernel_rfl) (by assumption) ?_ ?_
       rotate_left 1
       ·
        (intro wI hSI; (try dsimp only at hSI); go_simp; (try with_reducible rfl))
       simp only [Act.put, lsetA, lsetZ, lsetS]
       refine rtakeF (i := 5) (d := (some 52)) (v := ?_) (n := 40) rfl (by kernel_rfl) (by kernel_rfl) (by kernel_rfl) (by kernel_rfl) (by kernel_rfl) (by kernel_rfl) (fun _ _ _ h => h) (by kernel_rfl) (by assumption) ?_ ?_
       rotate_left 1
       ·
        (intro wI hSI; (try dsimp only at hSI); go_simp; (try with_reducible rfl))
       simp only [Act.put, lsetA, lsetZ, lsetS]
       refine rtakeF (i := 6) (d := (some 53)) (v := ?_) (n := 40) rfl (by kernel_rfl) (by kernel_rfl) (by kernel_rfl) (by kernel_rfl) (by kernel_rfl) (by kernel_rfl) (fun _ _ _ h => h) (by kernel_rfl) (by assumption) ?_ ?_
       rotate_left 1
       ·
        (intro wI hSI; (try dsimp only at hSI); go_simp; (try with_reducible rfl))
       simp only [Act.put, lsetA, lsetZ, lsetS]
       refine rcallF (i := 7) (d := (some 54)) (by kernel_rfl) rfl (by kernel_rfl) (fun K hK => ?_)
       go_simp; go_at_call 33; refine (HW1.out _ (below_next hbw4 hHeld.2)).mono ?_; rintro e w5 ⟨rfl, hb5⟩
       refine hK.out _ _ (.inr ?hS) (fun hHeld0 => ?_)
       case hS => exact ⟨cell_later hb5 hHeld.1, below_next hHeld.2 hb5⟩
       clear hK K
       have hHeld := hHeld0.resolve_left (by decide)
       simp only [Act.put, lsetA, lsetZ, lsetS]
       have hE5 := hE4.below hHeld.2
       have hP5 := hP4.below hHeld.2
       have hS5 := hS4.below hHeld.2
       have hb15 := below_next hb14 hHeld.2
       clear hE4 hP4 hS4 hb14 hsc hHeld
       refine rcallF (i := 8) (d := none) (by kernel_rfl) rfl (by kernel_rfl) (fun K hK => ?_)
       refine step_mapUpdate_gbox (by rfl) _ _ _ 78 (by rfl) 80 3 Tryz.underlying78 keysA mb es (by rfl) hE5 (p, q) hok (by rfl) (.int .i64 x) (by rfl) ?_; intro w6 hI6 hg6 hs6
       refine hK.out undef _ (.inl rfl) (fun _ => ?_)
       clear hK K
       simp only [Act.put, lsetA, lsetZ, lsetS]
       refine wpAnyF_done (by kernel_rfl) ?_ _
       have HG6 := Lib.hid ((HPUT.out _ _ hI6).congr (S' := initTo E i (k + 1)) (fun a c _ _ => by
        unfold updM initTo
        by_cases e : a = i ∧ c = k
        ·
         rw [if_pos e, if_pos (by omega), e.1, e.2, HE2.out]
        ·
         rw [if_neg e]
         by_cases e2 : a < i ∨ (a = i ∧ c < k)
         ·
          rw [if_pos e2, if_pos (by omega)]
         ·
          rw [if_neg e2, if_neg (by omega)]))
       have hP6 := hP5.grown hg6 (fun e => by have := Option.some.inj e; omega)
       have hS6 := hS5.grown hg6 (fun e => by have := Option.some.inj e; omega)
       have hb6 := hb15.grown hg6 hb15.size (fun j hj => by have := Option.some.inj hj; omega)
       clear hE5 hP5 hS5 hb15 hI6 hg6 hs6
       (try go_wp2_with fail)
       go_roundg (ks.length - (k + 1))
       case measure => have := hgk.out; omega
       case rel => exact ⟨k + 1, by go_num, by omega, rfl, HG6.out, hP6, hS6, hb6⟩
      ·
       have HE2 : Hid (E i k = 0) := by show _ = _; rw [HE.out, if_neg hxy]
       have hd : decide (y < x) = false := decide_eq_false hxy
       have HG4 := Lib.hid ((show GS w4 mb ks (initTo E i k) from ⟨es, hE4, HEV.out⟩).congr (S' := initTo E i (k + 1)) (fun a c _ _ => by
        unfold initTo
        by_cases e2 : a < i ∨ (a = i ∧ c < k)
        ·
         rw [if_pos e2, if_pos (by omega)]
        ·
         rw [if_neg e2]
         by_cases e : a = i ∧ c = k
         ·
          rw [if_pos (by omega), e.1, e.2, HE2.out]
         ·
          rw [if_neg (by omega)]))
       clear HE hxy hE4
       go_wp2_with fail
       go_roundg (ks.length - (k + 1))
       case measure => have := hgk.out; omega
       case rel => exact ⟨k + 1, by go_num, by omega, rfl, HG4.out, hP4, hS4, hb14⟩
    ·
     obtain rfl : k = ks.length := by omega
     have HG4 := Lib.hid (hG.congr (S' := initTo E (i + 1) 0) (fun a c ha hc => by
      unfold initTo
      by_cases e2 : a < i ∨ (a = i ∧ c < ks.length)
      ·
       rw [if_pos e2, if_pos (by omega)]
      ·
       rw [if_neg e2, if_neg (by omega)]))
     rw [← Hpa.out] at hP
     go_wp2_with fail
     rw [← Hpa.out]
     go_roundg (ks.length - (i + 1))
     case measure => have := hgi.out; omega
     case rel => exact ⟨i + 1, by go_num, by omega, rfl, HG4.out, hP, hS, hb⟩
  ·
   obtain rfl : i = ks.length := by omega
   have hG1 := hG.congr (S' := E) (fun a c ha hc => by unfold initTo; rw [if_pos (by omega)])
   clear hG hgi hil hi
   have hinv : SatInv E l.length ks.length E := ⟨fun _ _ => Int.le_refl _, fun a c => (HEB.out a c).1, fun a c => (HEB.out a c).2, fun a c _ _ t _ h => .one h⟩
   have HE0 : Hid (∀ a b, 0 ≤ E a b) := fun a b => (HEB.out a b).1
   have HINV := Lib.hid hinv
   have HINVS : Hid (∀ S, SatInv E l.length ks.length S → SatR E l.length ks.length (slackM l.length S ks.length) (S, false)) := fun S h => ⟨h, Nat.le_refl _, fun h => by cases h⟩
   have HWS : Hid (∀ S, SatInv E l.length ks.length S → (∀ a, a < ks.length → ∀ b, b < ks.length → ∀ c, c < ks.length → satOk S a b c = false) → isort (cmpC (strW ks S ks.length 0)) ks = out) := fun S h1 h2 => HL.out S (fun a c ha hc hac => ways_same HE0.out h1 h2 ha hc hac)
   clear hinv HEB HED HWO HL
   go_wp2_with fail
   go_loopg [9] (slackM l.length E ks.length + 1) (fun gk cv wr => ∃ (S : Nat → Nat → Int) (ch : Bool), cv = .bool ch ∧ GS wr mb ks S ∧ Box wr bP 29 #[.slice ka ks.length kc] ∧ Box wr bS 78 #[.map (some mb)] ∧ Below w1.heap.size w1 wr ∧ Hid (SatInv E l.length ks.length S) ∧ Hid (gk = slackM l.length S ks.length + (if ch = true then 1 else 0)) ∧ Hid (ch = false → ∀ a, a < ks.length → ∀ b, b < ks.length → ∀ c, c < ks.length → satOk S a b c = false))
   case atStart => exact ⟨E, true, rfl, hG1, hP, hS, hb, HINV.out, rfl, fun h => by cases h⟩
   case round =>
    clear hG1 hP hS hb
    obtain ⟨S, ch, rfl, hG, hP, hS, hb, hinv, hgk, hstill⟩ := hrel
    cases ch
    ·
     have HST := Lib.hid (hstill.out rfl)
     have hSo := Lib.hid (HWS.out S hinv.out HST.out)
     clear hgk hstill
     have hC0 := Box.new wr 81 #[.func (.func 34) #[] #[.pointer (some ⟨bP, 0, none⟩), .pointer (some ⟨bS, 0, none⟩)]]
     have hbA : Below wr.heap.size wr (wr.alloc (.cells #[.func (.func 34) #[] #[.pointer (some ⟨bP, 0, none⟩), .pointer (some ⟨bS, 0, none⟩)]] 81)) := (Below.refl _ _).alloc (Nat.le_refl _) _
     have hP3 := hP.below hbA
     have hS3 := hS.below hbA
     have hG3 := hG.below hbA
     have hb3 := below_next hb hbA
     have hzr : w1.heap.size ≤ wr.heap.size := hb.size
     have hown3 := hownk.below hb3
     have hka3 := hka
     go_upto_region 32 with (fail)
     clear hG hP hS hb hbA
     generalize wr.alloc (.cells #[.func (.func 34) #[] #[.pointer (some ⟨bP, 0, none⟩), .pointer (some ⟨bS, 0, none⟩)]] 81) = w3 at *
     generalize wr.heap.size = bC at *
     have hcmp : ∀ gs, (Value.slice ka ks.length kc).ownBlock = some gs → CmpAtQ w.heap.size 35 #[.pointer (some ⟨bC, 0, none⟩)] (cmpC (strW ks S ks.length 0)) ks gs (.slice ka ks.length kc) w3 := fun gs hgs W x y hx hy hkp hsx => by
      obtain ⟨s, hperm, hOs⟩ := hsx
      have hgl : gs < w1.heap.size := by
       rcases hka with e | ⟨b, e, h1, h2⟩
       ·
        rw [e] at hgs; cases hgs
       ·
        rw [e] at hgs; cases hgs; exact h2
      obtain ⟨a9, c9, e9, hsa9, -, -⟩ := hOs.form
      have hsl := hperm.length_eq
      simp only [Value.slice.injEq] at e9
      obtain ⟨rfl, -, rfl⟩ := e9
      refine stCloR_any bC bP bS _ x y W ((hC0.kp hkp (by omega)).cell 0) (fun z hz W' hW' => ?_)
      have hzk : z ∈ ks := by rcases hz with rfl | rfl; exact hx; exact hy
      refine countR_any bP bS mb ks s ka kc S z W' ?_ ?_ (hsa9.below hW') hperm ((hG3.same (hkp.block _ hG3.lt (by omega))).below hW') Hnd.out Hsz.out (by omega) hzk
      ·
       have := ((hP3.kp hkp (by omega)).below hW').cell 0
       rw [hsl]
       exact this
      ·
       exact ((hS3.kp hkp (by omega)).below hW').cell 0
     have HSS := Lib.hid (sortStableQ_any w.heap.size ks (.slice ka ks.length kc) 35 #[.pointer (some ⟨bC, 0, none⟩)] (cmpC (strW ks S ks.length 0)) w3 (enters_of Tryz.func35 (by kernel_rfl) rfl) hcmp hown3 hkn)
     rw [hSo.out] at HSS
     have hpc := hP3.cell 0
     simp at hpc
     have hol := hown3.lt
     have hbw3 := below_next HB1.out hb3
     clear hcmp hC0 hS3 hG3
     go_wp2_with fail
     refine HSS.out.mono ?_
     rintro e w4 ⟨rfl, hown4, hk4⟩
     have hgb : ¬ (Value.slice ka ks.length kc).ownBlock = some bP := fun e => by
      rcases hka with h | ⟨b, h, h1, h2⟩
      ·
       rw [h] at e; cases e
      ·
       rw [h] at e
       have e2 : b = bP := Option.some.inj e
       omega
     have hP4 := hP3.kp hk4 hgb
     have hb4 : Below w.heap.size w w4 := belowKp hbw3 hk4 (fun k hk => (hol k hk).1) hbw3.size
     have hpc4 := hP4.cell 0
     simp at hpc4
     clear hpc hP3 hP4 hk4 hown3 hbw3 hb3
     go_wp2_with fail
     go_ret
     exact ⟨_, rfl, hown4, hb4⟩
    ·
     have HR0 := Lib.hid (HINVS.out S hinv.out)
     have hX0 : GS wr mb ks (satA (S, false) ks.length 0).1 := hG
     have HX2 : Hid ((satA (S, false) ks.length 0).2 = false) := rfl
     have hpc := hP.cell 0
     simp at hpc
     clear hG hstill
     go_wp2_with fail
     clear hpc
     go_loopg [60, 9] ks.length (fun gk iv fv wr => ∃ i : Nat, iv = .int .i64 i ∧ fv = .bool (satA (S, false) ks.length i).2 ∧ i ≤ ks.length ∧ Hid (gk = ks.length - i) ∧ GS wr mb ks (satA (S, false) ks.length i).1 ∧ Box wr bP 29 #[.slice ka ks.length kc] ∧ Box wr bS 78 #[.map (some mb)] ∧ Below w1.heap.size w1 wr)
     case atStart => exact ⟨0, rfl, by rw [HX2.out], by omega, rfl, hX0, hP, hS, hb⟩
     case round =>
      clear hX0 hP hS hb
      obtain ⟨i, rfl, rfl, hi, hgi, hG, hP, hS, hb⟩ := hrel
      by_cases hil : i < ks.length
      ·
       obtain ⟨pb, po, hpa, e0⟩ := (HSK.out _ hb).str hil
       have Hpa := Lib.hid hpa
       rw [hpa] at hP
       rw [hpa]
       clear hpa
       have hpc := hP.cell 0
       simp at hpc
       have HNA : Hid (satA (S, false) ks.length (i + 1) = satB (satA (S, false) ks.length i) i ks.length ks.length) := rfl
       obtain ⟨XN, hXN⟩ : ∃ XN, XN = satA (S, false) ks.length (i + 1) := ⟨_, rfl⟩
       have HXN := Lib.hid hXN
       rw [← hXN] at HNA
       clear hXN
       generalize satA (S, false) ks.length i = X at *
       have hX0 : GS wr mb ks (satB X i ks.length 0).1 := hG
       have HX3 : Hid ((satB X i ks.length 0).2 = X.2) := rfl
       clear hG
       go_wp2_with fail
       clear hpc e0
       go_loopg [66, 9] ks.length (fun gk iv fv wr => ∃ j : Nat, iv = .int .i64 j ∧ fv = .bool (satB X i ks.length j).2 ∧ j ≤ ks.length ∧ Hid (gk = ks.length - j) ∧ GS wr mb ks (satB X i ks.length j).1 ∧ Box wr bP 29 #[.slice (some ⟨pb, po, none⟩) ks.length kc] ∧ Box wr bS 78 #[.map (some mb)] ∧ Below w1.heap.size w1 wr)
       case atStart => exact ⟨0, rfl, by rw [HX3.out], by omega, rfl, hX0, hP, hS, hb⟩
       case round =>
        clear hX0 hP hS hb
        obtain ⟨j, rfl, rfl, hj, hgj, hG, hP, hS, hb⟩ := hrel
        by_cases hjl : j < ks.length
        ·
         obtain ⟨pb', po', hpa', e0⟩ := (HSK.out _ hb).str hjl
         rw [Hpa.out] at hpa'
         cases hpa'
         have hpc := hP.cell 0
         simp at hpc
         have HNB : Hid (satB X i ks.length (j + 1) = satC (satB X i ks.length j) i j ks.length) := rfl
         obtain ⟨YN, hYN⟩ : ∃ YN, YN = satB X i ks.length (j + 1) := ⟨_, rfl⟩
         have HYN := Lib.hid hYN
         rw [← hYN] at HNB
         clear hYN
         generalize satB X i ks.length j = Y at *
         have hX0 : GS wr mb ks (satC Y i j 0).1 := hG
         have HX4 : Hid ((satC Y i j 0).2 = Y.2) := rfl
         clear hG
         go_wp2_with fail
         clear hpc e0
         go_loopg [72, 9] ks.length (fun gk iv fv wr => ∃ k : Nat, iv = .int .i64 k ∧ fv = .bool (satC Y i j k).2 ∧ k ≤ ks.length ∧ Hid (gk = ks.length - k) ∧ GS wr mb ks (satC Y i j k).1 ∧ Box wr bP 29 #[.slice (some ⟨pb, po, none⟩) ks.length kc] ∧ Box wr bS 78 #[.map (some mb)] ∧ Below w1.heap.size w1 wr)
         case atStart => exact ⟨0, rfl, by rw [HX4.out], by omega, rfl, hX0, hP, hS, hb⟩
         case round =>
          clear hX0 hP hS hb
          obtain ⟨k, rfl, rfl, hk, hgk2, hG, hP, hS, hb⟩ := hrel
          by_cases hkl : k < ks.length
          ·
           obtain ⟨pb', po', hpa', e0⟩ := (HSK.out _ hb).str hkl
           rw [Hpa.out] at hpa'
           cases hpa'
           have HNC : Hid (satC Y i j (k + 1) = sat1 (satC Y i j k) i j k) := rfl
           obtain ⟨ZN, hZN⟩ : ∃ ZN, ZN = satC Y i j (k + 1) := ⟨_, rfl⟩
           have HZN := Lib.hid hZN
           rw [← hZN] at HNC
           clear hZN
           generalize satC Y i j k = Z at *
           obtain ⟨SS, fl⟩ := Z
           simp only at hG
           simp only
           have HS1 : Hid (ZN = if satOk SS i j k = true then (updM SS i k (min (SS i j) (SS j k)), true) else (SS, fl)) := HNC.out
           have HOK : Hid (satOk SS i j k = (decide (i ≠ k) && decide (SS i k < min (SS i j) (SS j k)))) := rfl
           have hl1 := hG.look Hnd.out Hsz.out hil hjl
           have hl2 := hG.look Hnd.out Hsz.out hjl hkl
           have hl3 := hG.look Hnd.out Hsz.out hil hkl
           have hbd : Below wr.heap.size wr wr.drew := (Below.refl _ _).drew
           have hl4 := (hG.below hbd).look Hnd.out Hsz.out hil hjl
           have hl5 := (hG.below hbd).look Hnd.out Hsz.out hjl hkl
           have hl6 := (hG.below hbd).look Hnd.out Hsz.out hil hkl
           have hIK : Hid (i ≠ k → ¬ ks[i] = ks[k]) := fun h e => by
            have h1 := ixOf_at Hnd.out hil
            have h2 := ixOf_at Hnd.out hkl
            rw [e] at h1
            omega
           have hKE : Hid (i = k → ks[i] = ks[k]) := fun h => by subst h; rfl
           obtain ⟨es, hE, hEv⟩ := hG
           have HPUT := Lib.hid (fun w' v (h : GBox enc2 ok2 w' mb (gput es (ks[i], ks[k]) (.int .i64 v))) => GS.put h hEv Hnd.out hil hkl rfl rfl)
           have hok : ok2 (ks[i], ks[k]) := ⟨by have := Hsz.out _ (List.getElem_mem hil); show ks[i].size ≤ _; omega, by have := Hsz.out _ (List.getElem_mem hkl); show ks[k].size ≤ _; omega⟩
           have HEv := Lib.hid hEv
           have hsc := hS.cell 0
           simp at hsc
           clear hEv HNC
           generalize ks[i] = p at *
           generalize ks[j] = q at *
           generalize ks[k] = r at *
           generalize hv1 : SS i j = v1 at *
           generalize hv2 : SS j k = v2 at *
           generalize hv3 : SS i k = v3 at *
           clear hv1 hv2 hv3
           generalize hmn : min v1 v2 = v4 at *
           go_upto_region 25 with (fail)
           refine wp_region_held_drew (S := (fun wx => wx.cell? ⟨bS, 0, none⟩ = some (.map (some mb)) ∧ (Instr.lookup 78 (.map (some mb)) (.agg #[.string p, .string q]) false).run Tryz.prog wx = .ok (.int .i64 v1) wx ∧ (Instr.lookup 78 (.map (some mb)) (.agg #[.string q, .string r]) false).run Tryz.prog wx = .ok (.int .i64 v2) wx)) (by kernel_rfl) ?hS (fun hHeld => ?_)
           case hS => exact ⟨hsc, hl4, hl5⟩
           refine rt 0 (some 76) ?_
           refine rt 1 (some 77) ?_
           refine rt 2 (some 78) ?_
           refine rt 3 (some 79) ?_
           refine rt 4 (some 80) ?_
           refine rt 5 (some 81) ?_
           refine rt 6 (some 82) ?_
           refine rt 7 (some 83) ?_
           refine rt 8 (some 84) ?_
           refine rt 9 (some 85) ?_
           refine rt 10 (some 86) ?_
           refine rt 11 (some 16) ?_
           refine wpAnyH_done (by kernel_rfl) ?_ _
           have hE5 := hE.below hbd
           have hP5 := hP.below hbd
           have hS5 := hS.below hbd
           have hb5 := below_next hb hbd
           clear hl1 hl2 hl3 hl4 hl5 hHeld hE hP hS hb hbd hmn e0 hsc
           generalize wr.drew = w5 at *
           have hsc := hS5.cell 0
           simp at hsc
           by_cases hik : i = k
           ·
            have e := hKE.out hik
            have e1 := tl_eq e
            have e2 := tl_eq' e
            have e3 : p.toList = r.toList := by rw [e]
            have HZ : Hid (ZN = (SS, fl)) := by
             show _ = _
             rw [HS1.out, HOK.out, decide_eq_false (fun h => h hik), Bool.false_and, if_neg (by decide)]
            have HG4 := Lib.hid (show GS w5 mb ks SS from ⟨es, hE5, HEv.out⟩)
            clear e hik HS1 HOK hE5
            go_wp2_with fail
            go_roundg (ks.length - (k + 1))
            case measure => have := hgk2.out; omega
            case rel => exact ⟨k + 1, by go_num, by rw [← HZN.out, HZ.out], by omega, rfl, by rw [← HZN.out, HZ.out]; exact HG4.out, hP5, hS5, hb5⟩
           ·
            have hne := hIK.out hik
            have e1 := tl_ne hne
            have e2 := tl_ne' hne
            have e3 : ¬ p.toList = r.toList := fun h => hne (toList_inj.1 h)
            have HOK2 : Hid (satOk SS i j k = decide (v3 < v4)) := by show _ = _; rw [HOK.out, decide_eq_true hik, Bool.true_and]
            clear hne hik HOK
            by_cases hxy : v3 < v4
            ·
             have HZ : Hid (ZN = (updM SS i k v4, true)) := by
              show _ = _
              rw [HS1.out, HOK2.out, if_pos (decide_eq_true hxy)]
             have hd : decide (v3 < v4) = true := decide_eq_true hxy
             clear hxy HS1 HOK2
             go_wp2_with (at_mapUpdate; refine wpList_mapUpdate_gbox rfl _ _ _ 78 rfl 80 3 Tryz.underlying78 keysA mb es rfl hE5 (p, r) hok rfl (.int .i64 v4) rfl ?_; intro w6 hI6 hg6 hs6)
             have HG6 := Lib.hid (HPUT.out _ _ hI6)
             have hP6 := hP5.grown hg6 (fun e => by have := Option.some.inj e; omega)
             have hS6 := hS5.grown hg6 (fun e => by have := Option.some.inj e; omega)
             have hb6 := hb5.grown hg6 hb5.size (fun j hj => by have := Option.some.inj hj; omega)
             clear hE5 hP5 hS5 hb5 hI6 hg6 hs6
             (try go_wp2_with fail)
             go_roundg (ks.length - (k + 1))
             case measure => have := hgk2.out; omega
             case rel => exact ⟨k + 1, by go_num, by rw [← HZN.out, HZ.out], by omega, rfl, by rw [← HZN.out, HZ.out]; exact HG6.out, hP6, hS6, hb6⟩
            ·
             have HZ : Hid (ZN = (SS, fl)) := by
              show _ = _
              rw [HS1.out, HOK2.out, if_neg (by simpa using hxy)]
             have hd : decide (v3 < v4) = false := decide_eq_false hxy
             have HG4 := Lib.hid (show GS w5 mb ks SS from ⟨es, hE5, HEv.out⟩)
             clear hxy HS1 HOK2 hE5
             go_wp2_with fail
             go_roundg (ks.length - (k + 1))
             case measure => have := hgk2.out; omega
             case rel => exact ⟨k + 1, by go_num, by rw [← HZN.out, HZ.out], by omega, rfl, by rw [← HZN.out, HZ.out]; exact HG4.out, hP5, hS5, hb5⟩
          ·
           obtain rfl : k = ks.length := by omega
           rw [← HNB.out] at hG
           rw [← HNB.out]
           go_wp2_with fail
           go_roundg (ks.length - (j + 1))
           case measure => have := hgj.out; omega
           case rel => exact ⟨j + 1, by go_num, by rw [← HYN.out], by omega, rfl, by rw [← HYN.out]; exact hG, hP, hS, hb⟩
        ·
         obtain rfl : j = ks.length := by omega
         rw [← HNA.out] at hG
         rw [← HNA.out]
         rw [← Hpa.out] at hP
         go_wp2_with fail
         rw [← Hpa.out]
         go_roundg (ks.length - (i + 1))
         case measure => have := hgi.out; omega
         case rel => exact ⟨i + 1, by go_num, by rw [← HXN.out], by omega, rfl, by rw [← HXN.out]; exact hG, hP, hS, hb⟩
      ·
       obtain rfl : i = ks.length := by omega
       have HR1 := Lib.hid (satA_R HR0.out ks.length (Nat.le_refl _))
       have HST := Lib.hid (fun h => (satA_still (x := (S, false)) (n := ks.length) ks.length h))
       generalize satA (S, false) ks.length ks.length = X at *
       obtain ⟨S2, c2⟩ := X
       simp only at hG HST
       simp only
       have HG2 := Lib.hid hG
       clear hG
       go_wp2_with fail
       go_roundg (slackM l.length S2 ks.length + (if c2 = true then 1 else 0))
       case measure =>
        have h1 := hgk.out
        have h2 := HR1.out.2.1
        have h3 := HR1.out.2.2
        simp only at h2 h3
        simp only [if_true] at h1
        cases c2
        ·
         simp; omega
        ·
         have := h3 rfl
         simp; omega
       case rel => exact ⟨S2, c2, rfl, HG2.out, hP, hS, hb, HR1.out.1, rfl, fun h => by
        obtain ⟨-, h2, h3⟩ := HST.out h
        have h4 : S2 = S := h2
        rw [h4]
        exact h3⟩
end Go.Proofs.YtcjcdbhobehlpaaGreatDoor
