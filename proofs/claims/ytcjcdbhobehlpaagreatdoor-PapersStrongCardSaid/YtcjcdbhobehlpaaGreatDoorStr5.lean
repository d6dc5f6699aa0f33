/- The order that the fewest marks contradict: LeastOf of the reference. -/
import Derived.Test.YtcjcdbhobehlpaaGreatDoorStr4
import Derived.Test.YtcjcdbhobehlpaaGreatDoorRws
import Derived.Test.YtcjcdbhobehlpaaGreatDoorReg
import Derived.Laws.EntriesVeiled
namespace Go.Proofs.YtcjcdbhobehlpaaGreatDoor
open Go.RowKit
set_option linter.unusedVariables false
set_option linter.unusedSimpArgs false

theorem winsN_self (l : List Mark) (a : ByteArray) : winsN l a a = 0 := by
 unfold winsN
 rw [List.countP_eq_zero.2 (fun h _ => by unfold winB; cases scOf l a h <;> simp)]
 rfl
theorem SA.intR {w : World} {a : Option Addr} {l : List Int} (h : SA w a l) {i : Nat} (hi : i < l.length) :
  ∃ b off, a = some ⟨b, off, none⟩ ∧ w.cell? ⟨b, off + i, none⟩ = some (.int .i64 l[i]) := by
 obtain ⟨b, off, ha, hc⟩ := h.at hi
 refine ⟨b, off, ha, ?_⟩
 have := hc 0 (by decide)
 rw [show off + (i * Cel.k Int + 0) = off + i from by show off + (i * 1 + 0) = _; omega] at this
 exact this
/-- What a table of wins by rows says of the paper at k against the one at i. -/
theorem losW_at (l : List Mark) (ks : List ByteArray) {k i : Nat} (hk : k < ks.length) (hi : i < (rowOf l ks k).length) : (rowOf l ks k)[i] = losW l ks k i := by
 unfold losW
 rw [List.getD_eq_getElem?_getD, List.getElem?_eq_getElem hi]
 rfl
theorem andNotW (s k : Nat) (hs : s ≤ 16384) (hk : k ≤ 14) (hb : hasN s k = true) : bits .andNot .i64 (s : Int) (IntKind.i64.wrap ((2 : Int) ^ k)) = ((drp s k : Nat) : Int) := by
 have h := andNotN s k hs hk hb
 obtain ⟨N, hN, h1, h2, hw⟩ := pow_wrapN hk
 have e : ((2 : Int) ^ k) = (N : Int) := by rw [hN]; exact (Int.natCast_pow 2 k).symm
 rw [hw] at h
 rw [e]
 clear e hw
 rw [IntWalk.i64_in _ (by omega)]
 exact h
theorem infoIntR : (Tryz.prog.info? 3).map (fun i => (i.zero, i.size, i.bytes)) = some (some (.int .i64 0), 1, 8) := by kernel_rfl
theorem infoRowR : (Tryz.prog.info? 22).map (fun i => (i.zero, i.size, i.bytes)) = some (some (.slice none 0 0), 1, 24) := by kernel_rfl
/-- The papers and the rows of their wins, as the reference's closure finds them. -/
structure LsAt (base bP bW C : Nat) (l : List Mark) (ks : List ByteArray) (ka : Option Addr) (kc : Nat) (hv : Nat → Value) (w : World) : Prop where
 p : w.cell? ⟨bP, 0, none⟩ = some (.slice ka ks.length kc)
 w_ : w.cell? ⟨bW, 0, none⟩ = some (.slice (some ⟨C, 0, none⟩) ks.length ks.length)
 r : Rws base 3 22 C ks.length hv (rowOf l ks) w
 k : SA w ka ks
theorem LsAt.below {base bP bW C : Nat} {l : List Mark} {ks : List ByteArray} {ka : Option Addr} {kc : Nat} {hv : Nat → Value} {w w' : World} (h : LsAt base bP bW C l ks ka kc hv w) (hb : Below w.heap.size w w') : LsAt base bP bW C l ks ka kc hv w' :=
 ⟨cell_later hb h.p, cell_later hb h.w_, h.r.below hb, h.k.below hb⟩
set_option maxRecDepth 100000 in
set_option maxHeartbeats 2000000 in
theorem costR_any {base bP bW C : Nat} {l : List Mark} {ks : List ByteArray} {ka : Option Addr} {kc : Nat} {hv : Nat → Value} (w : World) (hL : LsAt base bP bW C l ks ka kc hv w) (hl : l.length ≤ 400) (hn : ks.length ≤ 9) (i s : Nat) (hi : i < ks.length) (hs : s ≤ 16384) :
  Calls Tryz.prog 38 #[.int .i64 (i : Nat), .int .i64 (s : Nat), .pointer (some ⟨bP, 0, none⟩), .pointer (some ⟨bW, 0, none⟩)] w (fun e w' => e = .returned (.int .i64 (cstTo (losW l ks) s i ks.length)) ∧ w = w') := by
 have HP := hL.p
 have HWc := hL.w_
 have HRW : Hid (∀ k, k < ks.length → ∃ b off c, w.cell? ⟨C, k, none⟩ = some (.slice (some ⟨b, off, none⟩) ks.length c) ∧ w.cell? ⟨b, off + i, none⟩ = some (.int .i64 (losW l ks k i))) := fun k hk => by
  obtain ⟨a', c', he, hsa, -, -⟩ := (hL.r.own k hk).form
  have h2 := hL.r.box.cellF hk
  simp only [id] at h2
  have hil : i < (rowOf l ks k).length := by rw [rowOf_length]; exact hi
  obtain ⟨b, off, ha, h3⟩ := hsa.intR hil
  rw [losW_at l ks hk hil] at h3
  rw [he, ha, rowOf_length] at h2
  exact ⟨b, off, c', h2, h3⟩
 have HW : Hid (∀ k, 0 ≤ losW l ks k i ∧ losW l ks k i ≤ 400) := fun k => by have := losW_bd l ks k i; omega
 have HC : Hid (∀ k, cstTo (losW l ks) s i (k + 1) = cstTo (losW l ks) s i k + if (hasN s k && decide (k ≠ i)) = true then losW l ks k i else 0) := fun k => rfl
 have HCB : Hid (∀ k, k ≤ ks.length → 0 ≤ cstTo (losW l ks) s i k ∧ cstTo (losW l ks) s i k ≤ 4000) := fun k hk => by
  have h1 := cst_high (W := losW l ks) (M := 400) (by omega) (fun a b => by have := losW_bd l ks a b; omega) s i k
  have h2 := cst_low (fun a b => (losW_bd l ks a b).1) s i k
  omega
 have HC0 : Hid (cstTo (losW l ks) s i 0 = 0) := rfl
 generalize cstTo (losW l ks) s i = cc at *
 clear hL
 go_enter Tryz.func38, Tryz.ntmps38
 go_wp2_with fail
 go_loopg [11, 7] ks.length (fun gk iv nv wr => ∃ k : Nat, iv = .int .i64 k ∧ nv = .int .i64 (cc k) ∧ k ≤ ks.length ∧ Hid (gk = ks.length - k) ∧ wr = w)
 case atStart => exact ⟨0, rfl, by rw [HC0.out], by omega, rfl, rfl⟩
 case round =>
  obtain ⟨k, rfl, rfl, hk, hgk, rfl⟩ := hrel
  by_cases hkl : k < ks.length
  ·
   obtain ⟨rb, ro, rc, d1, d2⟩ := HRW.out k hkl
   have hq := bit_atN s k
   have hk64 : decide ((64 : Int) ≤ (k : Int)) = false := decide_eq_false (by omega)
   have hk0 : (0 : Int) ≤ (k : Int) := by omega
   have hk2 : (k : Int) < (ks.length : Int) := by omega
   have hj0 : (0 : Int) ≤ (i : Int) := by omega
   have hj2 : (i : Int) < (ks.length : Int) := by omega
   have HCk := Lib.hid (HC.out k)
   have hcb := HCB.out k hk
   have hWb := HW.out k
   obtain ⟨n1, hn1⟩ : ∃ n1, n1 = cc (k + 1) := ⟨_, rfl⟩
   rw [← hn1] at HCk
   have Hn1 := Lib.hid hn1
   clear hn1
   generalize losW l ks k i = x at *
   generalize hck : cc k = q0 at *
   clear hck
   cases hbt : hasN s k
   ·
    rw [hbt, if_neg (by decide)] at hq
    rw [hbt, if_neg (by simp)] at HCk
    go_wp2_with fail
    go_roundg (ks.length - (k + 1))
    case measure => have := hgk.out; omega
    case rel => exact ⟨k + 1, by go_num, by rw [← Hn1.out, HCk.out, Int.add_zero], by omega, rfl, rfl⟩
   ·
    rw [hbt, if_pos rfl] at hq
    rw [hbt, Bool.true_and] at HCk
    by_cases hki : k = i
    ·
     have hne : (((k : Nat) : Int) != ((i : Nat) : Int)) = false := by simp; omega
     rw [if_neg (by simp; exact hki)] at HCk
     have Hki := Lib.hid hki
     clear hki
     go_wp2_with fail
     go_roundg (ks.length - (k + 1))
     case measure => have := hgk.out; omega
     case rel => exact ⟨k + 1, by go_num, by rw [← Hn1.out, HCk.out, Int.add_zero], by omega, rfl, rfl⟩
    ·
     have hne : (((k : Nat) : Int) != ((i : Nat) : Int)) = true := by simp; omega
     rw [if_pos (by simp; exact hki)] at HCk
     clear hki
     have hw1 : IntKind.i64.wrap (q0 + x) = q0 + x := IntWalk.i64_in _ (by omega)
     go_wp2_with fail
     go_roundg (ks.length - (k + 1))
     case measure => have := hgk.out; omega
     case rel => exact ⟨k + 1, by go_num, by rw [← Hn1.out, HCk.out], by omega, rfl, rfl⟩
  ·
   obtain rfl : k = ks.length := by omega
   go_wp2_with fail
   go_ret
   exact ⟨rfl, rfl⟩
/-- What LeastOf answers. -/
def LeastRRes (l : List Mark) (w : World) (e : Ending) (w' : World) : Prop := Below w.heap.size w w' ∧ ∃ v, e = .returned (.tuple #[v, .int .i64 (leastN l)]) ∧ Own w.heap.size 9 w' v (leastL l)
/-- Rows below i are made, the row at i up to k. -/
def PartR (l : List Mark) (ks : List ByteArray) (i k : Nat) (r : Nat → List Int) : Prop := ∀ a, a < ks.length → r a = if a < i then rowOf l ks a else if a = i then (rowOf l ks a).take k else []
theorem PartR.put {l : List Mark} {ks : List ByteArray} {i k : Nat} {r : Nat → List Int} (h : PartR l ks i k r) (hi : i < ks.length) (hk : k < ks.length) {v : Int} (hv : v = winsN l ks[i] ks[k]) : PartR l ks i (k + 1) (upd r i (r i ++ [v])) := fun a ha => by
 by_cases e : a = i
 ·
  subst e
  rw [upd_at, h a ha, if_neg (Nat.lt_irrefl a), if_pos rfl, if_neg (Nat.lt_irrefl a), if_pos rfl]
  have hkl : k < (rowOf l ks a).length := by rw [rowOf_length]; exact hk
  rw [List.take_succ_eq_append_getElem hkl]
  congr 2
  rw [hv, losW_at l ks hi hkl]
  unfold losW rowOf
  rw [List.getD_eq_getElem?_getD, List.getElem?_map, List.getElem?_eq_getElem hk, List.getD_eq_getElem?_getD, List.getElem?_eq_getElem hi]
  rfl
 ·
  rw [upd_ne _ _ e, h a ha, if_neg e, if_neg e]
theorem PartR.next {l : List Mark} {ks : List ByteArray} {i : Nat} {r : Nat → List Int} (h : PartR l ks i ks.length r) : PartR l ks (i + 1) 0 r := fun a ha => by
 rw [h a ha, List.take_zero]
 by_cases e : a < i
 ·
  rw [if_pos e, if_pos (by omega)]
 ·
  rw [if_neg e]
  by_cases e2 : a = i
  ·
   rw [if_pos e2, if_pos (by omega)]
   exact List.take_of_length_le (by rw [rowOf_length]; exact Nat.le_refl _)
  ·
   rw [if_neg e2, if_neg (by omega), ite_self]
theorem PartR.len {l : List Mark} {ks : List ByteArray} {i k : Nat} {r : Nat → List Int} (h : PartR l ks i k r) (hi : i < ks.length) : (r i).length ≤ ks.length := by
 rw [h i hi, if_neg (Nat.lt_irrefl i), if_pos rfl, List.length_take, rowOf_length]
 omega
theorem Rws.rows_eq {α : Type} [Cel α] {base : Nat} {E T : TypeId} {b n : Nat} {hv : Nat → Value} {r r2 : Nat → List α} {w : World} (h : Rws base E T b n hv r w) (k : ∀ i, i < n → r i = r2 i) : Rws base E T b n hv r2 w :=
 ⟨h.box, fun i hi => by rw [← k i hi]; exact h.own i hi, h.dis, h.low⟩
set_option maxRecDepth 100000 in
set_option maxHeartbeats 8000000 in
theorem leastOf_any (l : List Mark) (a : Option Addr) (cap : Nat) (w : World) (hs : SA w a l) (hl : l.length ≤ 400) (hkn : (keysOf (fun x => x.1) l).length ≤ 9) :
  Calls Tryz.prog 17 #[.slice a l.length cap] w (LeastRRes l w) := by
 have HMP := Lib.hid (MarkedPapers_any l a cap w hs (by omega))
 obtain ⟨ks, hkk⟩ : ∃ ks, keysOf (fun x => x.1) l = ks := ⟨_, rfl⟩
 have HKN : Hid ks.Nodup := by show ks.Nodup; rw [← hkk]; exact (keysS_rise _).nodup
 have HL : Hid (leastL l = leastK (losW l ks) ks (2 ^ ks.length - 1)) := by show _ = _; rw [← hkk]; rfl
 have HN : Hid (leastN l = (dpTo (losW l ks) ks.length (2 ^ ks.length)).1 (2 ^ ks.length - 1)) := by show _ = _; rw [← hkk]; rfl
 rw [hkk] at HMP hkn
 clear hkk
 go_enter Tryz.func17, Tryz.ntmps17
 go_wp2_with fail
 refine HMP.out.mono ?_
 rintro e w1 ⟨vk, rfl, hownk, hb1⟩
 obtain ⟨ka, kc, rfl, hsk, -, -⟩ := hownk.form
 have HWO := Lib.hid (fun x y W (h : Below w.heap.size w W) => winsOf_any l a cap x y W (hs.below h) hl)
 have hz1 := hb1.size
 have hmkL := run_make_len (P := Tryz.prog) 64 22 (.slice none 0 0) 24 (by kernel_rfl) infoRowR rfl ks.length (by omega) (by omega)
 clear hownk HMP hs
 go_upto_region 3 with (fail)
 clear hmkL
 have hP0 : Box (((w1.alloc (.cells #[.slice ka ks.length kc] 29)).alloc (.cells (Array.replicate ks.length (.slice none 0 0)) 22)).alloc (.cells #[.slice (some ⟨w1.heap.size + 1, 0, none⟩) ks.length ks.length] 64)) w1.heap.size 29 #[.slice ka ks.length kc] := ((Box.new w1 29 #[.slice ka ks.length kc]).alloc _).alloc _
 have hW0 : Box (((w1.alloc (.cells #[.slice ka ks.length kc] 29)).alloc (.cells (Array.replicate ks.length (.slice none 0 0)) 22)).alloc (.cells #[.slice (some ⟨w1.heap.size + 1, 0, none⟩) ks.length ks.length] 64)) (w1.heap.size + 1 + 1) 64 #[.slice (some ⟨w1.heap.size + 1, 0, none⟩) ks.length ks.length] := Box.newAt _ _ _ _ (by simp)
 have hR0 : Rws (w1.heap.size + 1 + 1 + 1) 3 22 (w1.heap.size + 1) ks.length (fun _ => .slice none 0 0) (fun _ => ([] : List Int)) (((w1.alloc (.cells #[.slice ka ks.length kc] 29)).alloc (.cells (Array.replicate ks.length (.slice none 0 0)) 22)).alloc (.cells #[.slice (some ⟨w1.heap.size + 1, 0, none⟩) ks.length ks.length] 64)) := by
  refine ⟨?_, fun i _ => Own.nil _ _ _, fun i j _ _ _ x hx => (by cases hx), by omega⟩
  rw [cellsF_rep id (Value.slice none 0 0)]
  exact (Box.newAt _ _ _ _ (by simp)).alloc _
 have hb0 : Below w1.heap.size w1 (((w1.alloc (.cells #[.slice ka ks.length kc] 29)).alloc (.cells (Array.replicate ks.length (.slice none 0 0)) 22)).alloc (.cells #[.slice (some ⟨w1.heap.size + 1, 0, none⟩) ks.length ks.length] 64)) := by (repeat' (first | exact Below.refl _ _ | assumption | refine Below.setCell ?_ ?_ _ | refine below_drewN ?_ _ | refine Below.drew ?_ | refine Below.alloc ?_ ?_ _ | (with_reducible refine Below.trans ?_ (Below.mono hb ?_)) | (with_reducible refine Below.trans ?_ (Below.mono hb0 ?_)) | (with_reducible refine Below.trans ?_ (Below.mono hb1 ?_)) | (with_reducible refine Below.trans ?_ (Below.mono hb2 ?_)) | (with_reducible refine Below.trans ?_ (Below.mono hb3 ?_)) | (with_reducible refine Below.trans ?_ (Below.mono hb4 ?_)) | (with_reducible refine Below.trans ?_ (Below.mono hb5 ?_)) | (with_reducible refine Below.trans ?_ (Below.mono hb6 ?_)) | (with_reducible refine Below.trans ?_ (Below.mono hb7 ?_)) | (with_reducible refine Below.trans ?_ (Below.mono hb8 ?_)) | (with_reducible refine Below.trans ?_ (Below.mono hb9 ?_)) | (with_reducible refine Below.trans ?_ (Below.mono hb10 ?_)) | (with_reducible refine Below.trans ?_ (Below.mono hb11 ?_)) | (with_reducible refine Below.trans ?_ (Below.mono hb12 ?_)) | (with_reducible refine Below.trans ?_ (Below.mono hb13 ?_)) | (with_reducible refine Below.trans ?_ (Below.mono hb14 ?_)) | (with_reducible refine Below.trans ?_ (Below.mono hb15 ?_)) | omega | (simp; done) | (simp; omega)))
 have hs0 : w1.heap.size + 1 + 1 + 1 ≤ (((w1.alloc (.cells #[.slice ka ks.length kc] 29)).alloc (.cells (Array.replicate ks.length (.slice none 0 0)) 22)).alloc (.cells #[.slice (some ⟨w1.heap.size + 1, 0, none⟩) ks.length ks.length] 64)).heap.size := by simp
 generalize (((w1.alloc (.cells #[.slice ka ks.length kc] 29)).alloc (.cells (Array.replicate ks.length (.slice none 0 0)) 22)).alloc (.cells #[.slice (some ⟨w1.heap.size + 1, 0, none⟩) ks.length ks.length] 64)) = W0 at *
 obtain ⟨bW, hbW⟩ : ∃ bW, bW = w1.heap.size + 1 + 1 := ⟨_, rfl⟩
 obtain ⟨C, hC⟩ : ∃ C, C = w1.heap.size + 1 := ⟨_, rfl⟩
 obtain ⟨bP, hbP⟩ : ∃ bP, bP = w1.heap.size := ⟨_, rfl⟩
 obtain ⟨base, hbase⟩ : ∃ base, base = w1.heap.size + 1 + 1 + 1 := ⟨_, rfl⟩
 rw [← hbase] at hR0 hs0
 rw [← hbW] at hW0
 rw [← hC] at hW0 hR0
 have hP0 : Box W0 bP 29 #[.slice ka ks.length kc] := by rw [hbP]; exact hP0
 rw [← hbW, ← hC]
 have hbPs : bP < base := by omega
 have hbWs : bW < base := by omega
 have hbPC : bP ≠ C := by omega
 have hbWC : bW ≠ C := by omega
 have hCw : w1.heap.size ≤ C := by omega
 have hbw : w1.heap.size ≤ base := by omega
 obtain ⟨wA, hwA⟩ : ∃ wA, wA = w1 := ⟨_, rfl⟩
 rw [← hwA] at hb0 hb1 hsk hbP hbw hCw
 rw [← hwA, ← hbP]
 clear hbW hC hbP hbase hz1 hwA
 have hc4 : W0.cell? ⟨bP, 0, none⟩ = some (.slice ka ks.length kc) := hP0.cell 0
 go_wp2_with fail
 clear hc4
 go_loopg [27] ks.length (fun gk iv wr => ∃ (i : Nat) (hv : Nat → Value) (r : Nat → List Int), iv = .int .i64 i ∧ i ≤ ks.length ∧ Hid (gk = ks.length - i) ∧ Rws base 3 22 C ks.length hv r wr ∧ Hid (PartR l ks i 0 r) ∧ Box wr bP 29 #[.slice ka ks.length kc] ∧ Box wr bW 64 #[.slice (some ⟨C, 0, none⟩) ks.length ks.length] ∧ Below wA.heap.size wA wr ∧ base ≤ wr.heap.size)
 case atStart => exact ⟨0, _, _, rfl, by omega, rfl, hR0, (fun a ha => by rw [if_neg (by omega)]; split <;> simp), hP0, hW0, hb0, hs0⟩
 case round =>
  clear hR0 hP0 hW0 hb0 hs0
  obtain ⟨i, hv, r, rfl, hi, hgi, hR, hq, hP, hWx, hb, hsz⟩ := hrel
  by_cases hil : i < ks.length
  ·
   obtain ⟨pb, po, hpa, e0⟩ := (hsk.below hb).str hil
   have hc4 : wr.cell? ⟨bP, 0, none⟩ = some (.slice ka ks.length kc) := hP.cell 0
   have Hpa := Lib.hid hpa
   rw [hpa] at hc4
   rw [hpa]
   clear hpa
   go_wp2_with fail
   go_loopg [34] ks.length (fun gk kv wr => ∃ (k : Nat) (hv : Nat → Value) (r : Nat → List Int), kv = .int .i64 k ∧ k ≤ ks.length ∧ Hid (gk = ks.length - k) ∧ Rws base 3 22 C ks.length hv r wr ∧ Hid (PartR l ks i k r) ∧ Box wr bP 29 #[.slice ka ks.length kc] ∧ Box wr bW 64 #[.slice (some ⟨C, 0, none⟩) ks.length ks.length] ∧ Below wA.heap.size wA wr ∧ base ≤ wr.heap.size)
   case atStart => exact ⟨0, hv, r, rfl, by omega, rfl, hR, hq.out, hP, hWx, hb, hsz⟩
   case round =>
    clear hR hq hP hWx hb hsz hc4 e0 hv r
    obtain ⟨k, hv, r, rfl, hk, hgk, hR, hq, hP, hWx, hb, hsz⟩ := hrel
    by_cases hkl : k < ks.length
    ·
     obtain ⟨qb, qo, hqa, f0⟩ := (hsk.below hb).str hkl
     have hqa2 := hqa.symm.trans Hpa.out
     simp only [Option.some.injEq, Addr.mk.injEq, and_true] at hqa2
     obtain ⟨rfl, rfl⟩ := hqa2
     have hk0 : (0 : Int) ≤ (k : Int) := by omega
     have hk2 : (k : Int) < (ks.length : Int) := by omega
     by_cases hab : ks[i] = ks[k]
     ·
      have HX0 : Hid ((0 : Int) = winsN l ks[i] ks[k]) := by show _ = _; rw [hab, winsN_self]
      have e1 := tl_eq hab
      have e2 := tl_eq' hab
      have e3 : ks[i].toList = ks[k].toList := by rw [hab]
      clear hab hqa
      go_upto_region 12 with (fail)
      clear f0 e1 e2 e3
      have hrl : (r i).length ≤ 9 := by have := hq.out.len hil; omega
      have hj0 : (0 : Int) ≤ (i : Int) := by omega
      have hj2 : (i : Int) < (ks.length : Int) := by omega
      have hC0 := hR.box.cellF hil
      simp only [id] at hC0
      have hlow := hR.low
      have hW3c : wr.cell? ⟨bW, 0, none⟩ = some (.slice (some ⟨C, 0, none⟩) ks.length ks.length) := hWx.cell 0
      refine wp_regionF (S := (fun wx => wx.cell? ⟨bW, 0, none⟩ = some (.slice (some ⟨C, 0, none⟩) ks.length ks.length) ∧ wx.cell? ⟨C, i, none⟩ = some (hv i))) 10 (by kernel_rfl) ?hS (fun hHeld => ?_)
      case hS => exact ⟨hW3c, hC0⟩
      refine rtakeF (i := 0) (d := (some 45)) (v := ?_) (n := 40) rfl (by kernel_rfl) (by kernel_rfl) (by kernel_rfl) (by kernel_rfl) (by kernel_rfl) (by kernel_rfl) (fun _ _ _ h => h) (by kernel_rfl) (by assumption) ?_ ?_
      rotate_left 1
      ·
       (intro wI hSI; (try dsimp only at hSI); go_simp; (try with_reducible rfl))
      simp only [Act.put, lsetA, lsetZ, lsetS]
      refine rtakeF (i := 1) (d := (some 46)) (v := ?_) (n := 40) rfl (by kernel_rfl) (by kernel_rfl) (by kernel_rfl) (by kernel_rfl) (by kernel_rfl) (by kernel_rfl) (fun _ _ _ h => h) (by kernel_rfl) (by assumption) ?_ ?_
      rotate_left 1
      ·
       (intro wI hSI; (try dsimp only at hSI); go_simp; (try with_reducible rfl))
      simp only [Act.put, lsetA, lsetZ, lsetS]
      refine rtakeF (i := 2) (d := (some 47)) (v := ?_) (n := 40) rfl (by kernel_rfl) (by kernel_rfl) (by kernel_rfl) (by kernel_rfl) (by kernel_rfl) (by kernel_rfl) (fun _ _ _ h => h) (by kernel_rfl) (by assumption) ?_ ?_
      rotate_left 1
      ·
       (intro wI hSI; (try dsimp only at hSI); go_simp; (try with_reducible rfl))
      simp only [Act.put, lsetA, lsetZ, lsetS]
      refine rtakeF (i := 3) (d := (some 48)) (v := ?_) (n := 40) rfl (by kernel_rfl) (by kernel_rfl) (by kernel_rfl) (by kernel_rfl) (by kernel_rfl) (by kernel_rfl) (fun _ _ _ h => h) (by kernel_rfl) (by assumption) ?_ ?_
      rotate_left 1
      ·
       (intro wI hSI; (try dsimp only at hSI); go_simp; (try with_reducible rfl))
      simp only [Act.put, lsetA, lsetZ, lsetS]
      refine rtakeF (i := 4) (d := (some 49)) (v := ?_) (n := 40) rfl (by kernel_rfl) (by kernel_rfl) (by kernel_rfl) (by kernel_rfl) (by kernel_rfl) (by kernel_rfl) (fun _ _ _ h => h) (by kernel_rfl) (by assumption) ?_ ?_
      rotate_left 1
      ·
       (intro wI hSI; (try dsimp only at hSI); go_simp; (try with_reducible rfl))
      simp only [Act.put, lsetA, lsetZ, lsetS]
      refine rtakeF (i := 5) (d := (some 50)) (v := ?_) (n := 40) rfl (by kernel_rfl) (by kernel_rfl) (by kernel_rfl) (by kernel_rfl) (by kernel_rfl) (by kernel_rfl) (fun _ _ _ h => h) (by kernel_rfl) (by assumption) ?_ ?_
      rotate_left 1
      ·
       (intro wI hSI; (try dsimp only at hSI); go_simp; (try with_reducible rfl))
      simp only [Act.put, lsetA, lsetZ, lsetS]
      refine rtakeF (i := 6) (d := (some 51)) (v := ?_) (n := 40) rfl (by kernel_rfl) (by kernel_rfl) (by kernel_rfl) (by kernel_rfl) (by kernel_rfl) (by kernel_rfl) (fun _ _ _ h => h) (by kernel_rfl) (by assumption) ?_ ?_
      rotate_left 1
      ·
       (intro wI hSI; (try dsimp only at hSI); go_simp; (try with_reducible rfl))
      simp only [Act.put, lsetA, lsetZ, lsetS]
      have hbX : Below wr.heap.size wr (wr.alloc (.cells #[.int .i64 0] 3)).drew := ((Below.refl wr.heap.size wr).alloc (Nat.le_refl _) _).drew
      have hR4 := hR.below hbX
      have hP4 := hP.below hbX
      have hW4 := hWx.below hbX
      have hb4 := below_next hb hbX
      have hs4 := Nat.le_trans hsz hbX.size
      clear hR hb hC0 hW3c
      refine rcallF (i := 7) (d := (some 52)) (by kernel_rfl) rfl (by kernel_rfl) (fun K hK => ?_)
      go_simp
      refine hK.out _ _ (.inr ?hS) (fun hHeld0 => ?_)
      case hS => exact ⟨hW4.cell 0, hR4.box.cellF hil⟩
      clear hK K
      have hHeld := hHeld0.resolve_left (by decide)
      simp only [Act.put, lsetA, lsetZ, lsetS]
      refine rcallF (i := 8) (d := (some 53)) (by kernel_rfl) rfl (by kernel_rfl) (fun K hK => ?_)
      refine step_append_lie (α := Int) (by rfl) _ _ 22 (by rfl) 3 8 (.int .i64 0) Tryz.underlying22 infoIntR (by rfl) (hv i) (r i) (by rfl) (hR4.own i hil) 0 _ (by rfl) (Box.new _ _ _).drew (by omega) (by omega) (by omega) ?_; intro g9 cap9 w9 hown9 hg9 hat9; have hk9 : Kp (fun x => (hv i).ownBlock = some x) _ w9 := (Kp.refl (fun x => (hv i).ownBlock = some x) _).grown hg9 (fun x hx => .inl hx); have hnC : ∀ x, x < base → ¬ (hv i).ownBlock = some x := (fun x hx e => by have := ((hR4.own i hil).lt x e).1; omega); have hbC9 := hR4.box.kp hk9 (hnC _ hlow); have hbM9 := hW4.kp hk9 (hnC _ hbWs); have hc9 := hbC9.cellF hil; have hf9 := hbC9.frozen i; have hm9 : w9.cell? ⟨bW, 0, none⟩ = some (.slice (some ⟨C, 0, none⟩) ks.length ks.length) := hbM9.cell 0; simp only [id] at hc9
      refine hK.out _ _ (.inr ?hS) (fun hHeld0 => ?_)
      case hS => exact ⟨hm9, hc9⟩
      clear hK K
      have hHeld := hHeld0.resolve_left (by decide)
      simp only [Act.put, lsetA, lsetZ, lsetS]
      refine rtakeF (i := 9) (d := (some 54)) (v := ?_) (n := 40) rfl (by kernel_rfl) (by kernel_rfl) (by kernel_rfl) (by kernel_rfl) (by kernel_rfl) (by kernel_rfl) (fun _ _ _ h => h) (by kernel_rfl) (by assumption) ?_ ?_
      rotate_left 1
      ·
       (intro wI hSI; (try dsimp only at hSI); go_simp; (try with_reducible rfl))
      simp only [Act.put, lsetA, lsetZ, lsetS]
      refine rcallF (i := 10) (d := none) (by kernel_rfl) rfl (by kernel_rfl) (fun K hK => ?_)
      go_simp
      refine hK.out undef _ (.inl rfl) (fun _ => ?_)
      clear hK K
      simp only [Act.put, lsetA, lsetZ, lsetS]
      refine wpAnyF_done (by kernel_rfl) ?_ _
      have hR5 := hR4.push hil hown9 hg9 (atNew hat9)
      have hkS := hR4.pushed (v' := .slice (some ⟨g9, 0, none⟩) ((r i).length + 1) cap9) hil hg9
      have hP5 := hP4.kp hkS (fun e => by rcases e with e | e; exact hnC _ hbPs e; omega)
      have hW5 := hW4.kp hkS (fun e => by rcases e with e | e; exact hnC _ hbWs e; omega)
      have hs5 := Nat.le_trans hs4 hkS.size
      have hb5 := belowKp hb4 hkS (fun x hx => by rcases hx with hx | hx; (have := ((hR4.own i hil).lt x hx).1; omega); omega) hb4.size
      have hq2 := Lib.hid (hq.out.put hil hkl (v := 0) (by first | rfl | exact HX0.out))
      clear hR4 hb4 hP4 hW4 hs4 hHeld hg9 hown9 hat9 hk9 hnC hbC9 hbM9 hc9 hf9 hm9 hkS hbX
      go_wp2_with fail
      (try rw [← Hqa.out])
      go_roundg (ks.length - (k + 1))
      case measure => have := hgk.out; omega
      case rel => exact ⟨k + 1, _, _, by go_num, by omega, rfl, hR5, hq2.out, hP5, hW5, hb5, hs5⟩
     ·
      have HX0 : Hid (winsN l ks[i] ks[k] = winsN l ks[i] ks[k]) := rfl
      have e1 := tl_ne hab
      have e2 := tl_ne' hab
      have e3 : ¬ ks[i].toList = ks[k].toList := fun h => hab (toList_inj.1 h)
      have HW1 := Lib.hid (HWO.out ks[i] ks[k] _ (below_next hb1 hb))
      clear hab hqa HX0
      go_wp2_with fail
      refine HW1.out.mono ?_
      rintro e w3 ⟨rfl, hb9⟩
      have hR3 := hR.below hb9
      have hP3 := hP.below hb9
      have hW3 := hWx.below hb9
      have hs3 := Nat.le_trans hsz hb9.size
      have hb3 := below_next hb hb9
      clear HW1 hR hP hWx hsz hb hb9 f0 e1 e2 e3
      go_upto_region 12 with (fail)
      have hrl : (r i).length ≤ 9 := by have := hq.out.len hil; omega
      have hj0 : (0 : Int) ≤ (i : Int) := by omega
      have hj2 : (i : Int) < (ks.length : Int) := by omega
      have hC0 := hR3.box.cellF hil
      simp only [id] at hC0
      have hlow := hR3.low
      have hW3c : w3.cell? ⟨bW, 0, none⟩ = some (.slice (some ⟨C, 0, none⟩) ks.length ks.length) := hW3.cell 0
      refine wp_regionF (S := (fun wx => wx.cell? ⟨bW, 0, none⟩ = some (.slice (some ⟨C, 0, none⟩) ks.length ks.length) ∧ wx.cell? ⟨C, i, none⟩ = some (hv i))) 10 (by kernel_rfl) ?hS (fun hHeld => ?_)
      case hS => exact ⟨hW3c, hC0⟩
      refine rtakeF (i := 0) (d := (some 45)) (v := ?_) (n := 40) rfl (by kernel_rfl) (by kernel_rfl) (by kernel_rfl) (by kernel_rfl) (by kernel_rfl) (by kernel_rfl) (fun _ _ _ h => h) (by kernel_rfl) (by assumption) ?_ ?_
      rotate_left 1
      ·
       (intro wI hSI; (try dsimp only at hSI); go_simp; (try with_reducible rfl))
      simp only [Act.put, lsetA, lsetZ, lsetS]
      refine rtakeF (i := 1) (d := (some 46)) (v := ?_) (n := 40) rfl (by kernel_rfl) (by kernel_rfl) (by kernel_rfl) (by kernel_rfl) (by kernel_rfl) (by kernel_rfl) (fun _ _ _ h => h) (by kernel_rfl) (by assumption) ?_ ?_
      rotate_left 1
      ·
       (intro wI hSI; (try dsimp only at hSI); go_simp; (try with_reducible rfl))
      simp only [Act.put, lsetA, lsetZ, lsetS]
      refine rtakeF (i := 2) (d := (some 47)) (v := ?_) (n := 40) rfl (by kernel_rfl) (by kernel_rfl) (by kernel_rfl) (by kernel_rfl) (by kernel_rfl) (by kernel_rfl) (fun _ _ _ h => h) (by kernel_rfl) (by assumption) ?_ ?_
      rotate_left 1
      ·
       (intro wI hSI; (try dsimp only at hSI); go_simp; (try with_reducible rfl))
      simp only [Act.put, lsetA, lsetZ, lsetS]
      refine rtakeF (i := 3) (d := (some 48)) (v := ?_) (n := 40) rfl (by kernel_rfl) (by kernel_rfl) (by kernel_rfl) (by kernel_rfl) (by kernel_rfl) (by kernel_rfl) (fun _ _ _ h => h) (by kernel_rfl) (by assumption) ?_ ?_
      rotate_left 1
      ·
       (intro wI hSI; (try dsimp only at hSI); go_simp; (try with_reducible rfl))
      simp only [Act.put, lsetA, lsetZ, lsetS]
      refine rtakeF (i := 4) (d := (some 49)) (v := ?_) (n := 40) rfl (by kernel_rfl) (by kernel_rfl) (by kernel_rfl) (by kernel_rfl) (by kernel_rfl) (by kernel_rfl) (fun _ _ _ h => h) (by kernel_rfl) (by assumption) ?_ ?_
      rotate_left 1
      ·
       (intro wI hSI; (try dsimp only at hSI); go_simp; (try with_reducible rfl))
      simp only [Act.put, lsetA, lsetZ, lsetS]
      refine rtakeF (i := 5) (d := (some 50)) (v := ?_) (n := 40) rfl (by kernel_rfl) (by kernel_rfl) (by kernel_rfl) (by kernel_rfl) (by kernel_rfl) (by kernel_rfl) (fun _ _ _ h => h) (by kernel_rfl) (by assumption) ?_ ?_
      rotate_left 1
      ·
       (intro wI hSI; (try dsimp only at hSI); go_simp; (try with_reducible rfl))
      simp only [Act.put, lsetA, lsetZ, lsetS]
      refine rtakeF (i := 6) (d := (some 51)) (v := ?_) (n := 40) rfl (by kernel_rfl) (by kernel_rfl) (by kernel_rfl) (by kernel_rfl) (by kernel_rfl) (by kernel_rfl) (fun _ _ _ h => h) (by kernel_rfl) (by assumption) ?_ ?_
      rotate_left 1
      ·
       (intro wI hSI; (try dsimp only at hSI); go_simp; (try with_reducible rfl))
      simp only [Act.put, lsetA, lsetZ, lsetS]
      have hbX : Below w3.heap.size w3 (w3.alloc (.cells #[.int .i64 (winsN l ks[i] ks[k])] 3)).drew := ((Below.refl w3.heap.size w3).alloc (Nat.le_refl _) _).drew
      have hR4 := hR3.below hbX
      have hP4 := hP3.below hbX
      have hW4 := hW3.below hbX
      have hb4 := below_next hb3 hbX
      have hs4 := Nat.le_trans hs3 hbX.size
      clear hR3 hb3 hC0 hW3c
      refine rcallF (i := 7) (d := (some 52)) (by kernel_rfl) rfl (by kernel_rfl) (fun K hK => ?_)
      go_simp
      refine hK.out _ _ (.inr ?hS) (fun hHeld0 => ?_)
      case hS => exact ⟨hW4.cell 0, hR4.box.cellF hil⟩
      clear hK K
      have hHeld := hHeld0.resolve_left (by decide)
      simp only [Act.put, lsetA, lsetZ, lsetS]
      refine rcallF (i := 8) (d := (some 53)) (by kernel_rfl) rfl (by kernel_rfl) (fun K hK => ?_)
      refine step_append_lie (α := Int) (by rfl) _ _ 22 (by rfl) 3 8 (.int .i64 0) Tryz.underlying22 infoIntR (by rfl) (hv i) (r i) (by rfl) (hR4.own i hil) (winsN l ks[i] ks[k]) _ (by rfl) (Box.new _ _ _).drew (by omega) (by omega) (by omega) ?_; intro g9 cap9 w9 hown9 hg9 hat9; have hk9 : Kp (fun x => (hv i).ownBlock = some x) _ w9 := (Kp.refl (fun x => (hv i).ownBlock = some x) _).grown hg9 (fun x hx => .inl hx); have hnC : ∀ x, x < base → ¬ (hv i).ownBlock = some x := (fun x hx e => by have := ((hR4.own i hil).lt x e).1; omega); have hbC9 := hR4.box.kp hk9 (hnC _ hlow); have hbM9 := hW4.kp hk9 (hnC _ hbWs); have hc9 := hbC9.cellF hil; have hf9 := hbC9.frozen i; have hm9 : w9.cell? ⟨bW, 0, none⟩ = some (.slice (some ⟨C, 0, none⟩) ks.length ks.length) := hbM9.cell 0; simp only [id] at hc9
      refine hK.out _ _ (.inr ?hS) (fun hHeld0 => ?_)
      case hS => exact ⟨hm9, hc9⟩
      clear hK K
      have hHeld := hHeld0.resolve_left (by decide)
      simp only [Act.put, lsetA, lsetZ, lsetS]
      refine rtakeF (i := 9) (d := (some 54)) (v := ?_) (n := 40) rfl (by kernel_rfl) (by kernel_rfl) (by kernel_rfl) (by kernel_rfl) (by kernel_rfl) (by kernel_rfl) (fun _ _ _ h => h) (by kernel_rfl) (by assumption) ?_ ?_
      rotate_left 1
      ·
       (intro wI hSI; (try dsimp only at hSI); go_simp; (try with_reducible rfl))
      simp only [Act.put, lsetA, lsetZ, lsetS]
      refine rcallF (i := 10) (d := none) (by kernel_rfl) rfl (by kernel_rfl) (fun K hK => ?_)
      go_simp
      refine hK.out undef _ (.inl rfl) (fun _ => ?_)
      clear hK K
      simp only [Act.put, lsetA, lsetZ, lsetS]
      refine wpAnyF_done (by kernel_rfl) ?_ _
      have hR5 := hR4.push hil hown9 hg9 (atNew hat9)
      have hkS := hR4.pushed (v' := .slice (some ⟨g9, 0, none⟩) ((r i).length + 1) cap9) hil hg9
      have hP5 := hP4.kp hkS (fun e => by rcases e with e | e; exact hnC _ hbPs e; omega)
      have hW5 := hW4.kp hkS (fun e => by rcases e with e | e; exact hnC _ hbWs e; omega)
      have hs5 := Nat.le_trans hs4 hkS.size
      have hb5 := belowKp hb4 hkS (fun x hx => by rcases hx with hx | hx; (have := ((hR4.own i hil).lt x hx).1; omega); omega) hb4.size
      have hq2 := Lib.hid (hq.out.put hil hkl (v := (winsN l ks[i] ks[k])) (by first | rfl | exact HX0.out))
      clear hR4 hb4 hP4 hW4 hs4 hHeld hg9 hown9 hat9 hk9 hnC hbC9 hbM9 hc9 hf9 hm9 hkS hbX
      go_wp2_with fail
      (try rw [← Hqa.out])
      go_roundg (ks.length - (k + 1))
      case measure => have := hgk.out; omega
      case rel => exact ⟨k + 1, _, _, by go_num, by omega, rfl, hR5, hq2.out, hP5, hW5, hb5, hs5⟩
    ·
     obtain rfl : k = ks.length := by omega
     have hq3 := Lib.hid hq.out.next
     clear hq
     go_wp2_with fail
     rw [← Hpa.out]
     go_roundg (ks.length - (i + 1))
     case measure => have := hgi.out; omega
     case rel => exact ⟨i + 1, hv, r, by go_num, by omega, rfl, hR, hq3.out, hP, hWx, hb, hsz⟩
  ·
   obtain rfl : i = ks.length := by omega
   have hRr := hR.rows_eq (r2 := rowOf l ks) (fun j hj => by rw [hq.out j hj, if_pos hj])
   have HLS : Hid (∀ V, Below wr.heap.size wr V → LsAt base bP bW C l ks ka kc hv V) := fun V h => (LsAt.mk (hP.cell 0) (hWx.cell 0) hRr (hsk.below hb)).below h
   have hc4 : wr.cell? ⟨bP, 0, none⟩ = some (.slice ka ks.length kc) := hP.cell 0
   have hbz := below_next hb1 hb
   obtain ⟨NN, hNN, hN1, hN2, hpw⟩ := pow_wrapN (n := ks.length) (by omega)
   have HPW := Lib.hid hpw
   clear hpw hR hq hP hWx hRr hb hb1 hsk HWO HKN hgi hi hbPs hbWs hbPC hbWC hCw hbw hil
   have HNN := Lib.hid hNN
   have hWL : ∀ a b, 0 ≤ losW l ks a b := fun a b => (losW_bd l ks a b).1
   have HLL := Lib.hid (leastK_len hWL ks (s := NN - 1) (by omega))
   have HLT := Lib.hid (fun v h0 hv => leastK_step hWL ks (s := v) h0 hv)
   have HNS := Lib.hid (fun v h0 hv => next_spec hWL (n := ks.length) (s := v) h0 hv)
   rw [← hNN] at HLT HNS HL HN
   obtain ⟨T, hT⟩ : ∃ T, T = NN - 1 := ⟨_, rfl⟩
   have hTN : T < NN := by omega
   have HwN : Hid (IntKind.i64.wrap ((NN : Int) - 1) = (T : Int)) := by show _ = _; rw [IntWalk.i64_in _ (by omega)]; omega
   rw [← hT] at HLL HL HN
   clear hWL hT hNN
   have hd64 : decide ((64 : Int) ≤ (ks.length : Int)) = false := decide_eq_false (by omega)
   have hmk := run_make_len (P := Tryz.prog) 22 3 (.int .i64 0) 8 (by kernel_rfl) infoIntR rfl NN (by omega) (by omega)
   have hX := Box.new wr 3 (Array.replicate NN (.int .i64 0))
   have hb2 : Below wr.heap.size wr (wr.alloc (.cells (Array.replicate NN (.int .i64 0)) 3)) := (Below.refl _ _).alloc (Nat.le_refl _) _
   have hpw := HPW.out
   go_upto_region 16 with (fail)
   clear hpw hmk hc4
   generalize wr.alloc (.cells (Array.replicate NN (.int .i64 0)) 3) = w3 at *
   rw [show Array.replicate NN (Value.int .i64 0) = cellsF intF (dpTo (losW l ks) ks.length 1).1 NN from by rw [dp_one]; exact (cellsF_rep intF 0 NN).symm] at hX
   obtain ⟨wz, hwz⟩ : ∃ wz, wz = wr := ⟨_, rfl⟩
   obtain ⟨B, hB⟩ : ∃ B, B = wr.heap.size := ⟨_, rfl⟩
   rw [← hB] at hX ⊢
   have hB2 : wz.heap.size ≤ B := by rw [hwz]; omega
   rw [← hwz] at hb2 HLS hbz
   clear hB hwz hsz
   go_wp2_with fail
   go_loopg [13] (NN - 1) (fun gk sv wr => ∃ s : Nat, sv = .int .i64 s ∧ 1 ≤ s ∧ s ≤ NN ∧ Hid (gk = NN - s) ∧ Box wr B 3 (cellsF intF (dpTo (losW l ks) ks.length s).1 NN) ∧ Below wz.heap.size wz wr)
   case atStart => exact ⟨1, rfl, by omega, by omega, rfl, hX, hb2⟩
   case round =>
    clear hX hb2
    obtain ⟨s, rfl, hs1, hsN, hgs, hBx, hb⟩ := hrel
    by_cases hlt : s < NN
    ·
     have hi0 : (0 : Int) ≤ (s : Int) := by omega
     have hi2 : (s : Int) < (NN : Int) := by omega
     have hF1 := hBx.frozen s
     have hc1 := hBx.cellF hlt
     go_upto_region 21 with (fail)
     have hB6 := hBx.setF (enc := intF) s (-1)
     have hb5 := hb.setCell (p := ⟨B, s, none⟩) hB2 (intF (-1))
     rw [show Value.int .i64 (-1) = intF (-1) from rfl]
     generalize wr.setCell ⟨B, s, none⟩ (intF (-1)) = w5 at *
     have HW : Hid (∀ a b, 0 ≤ losW l ks a b ∧ losW l ks a b ≤ 400) := fun a b => by have := losW_bd l ks a b; omega
     have HCO := Lib.hid (fun i (hi : i < ks.length) V h => costR_any V (HLS.out V h) hl hkn i s hi (by omega))
     have hc4 := (HLS.out _ hb5).p
     obtain ⟨W, hW⟩ : ∃ W, W = losW l ks := ⟨_, rfl⟩
     have HWE := Lib.hid hW
     rw [← hW] at HW hB6 HCO
     have HNX := Lib.hid (bst_step W ks.length (s := s) (by omega)).1
     have HCA : Hid (∀ i, cAt W ks.length s i = (dpTo W ks.length s).1 (drp s i) + cstTo W s i ks.length) := fun i => rfl
     have HSC : Hid (∀ i, scanTo (cAt W ks.length s) s (i + 1) = if hasN s i = true then (if (scanTo (cAt W ks.length s) s i).1 < 0 ∨ cAt W ks.length s i < (scanTo (cAt W ks.length s) s i).1 then (cAt W ks.length s i, i) else scanTo (cAt W ks.length s) s i) else scanTo (cAt W ks.length s) s i) := fun i => rfl
     have HDB : Hid (∀ x, (dpTo W ks.length s).1 x ≤ 4000 * (x : Int)) := fun x => dp_high (by omega) (fun a b => (HW.out a b).2) ks.length (by omega) s x
     have HDL : Hid (∀ x, 0 ≤ (dpTo W ks.length s).1 x) := fun x => dp_low (fun a b => (HW.out a b).1) s (by rw [← HNN.out]; omega) x
     have HCB : Hid (∀ i, 0 ≤ cstTo W s i ks.length ∧ cstTo W s i ks.length ≤ 4000) := fun i => by
      have h1 := cst_high (W := W) (M := 400) (by omega) (fun a b => (HW.out a b).2) s i ks.length
      have h2 := cst_low (fun a b => (HW.out a b).1) s i ks.length
      omega
     have hB6 : Box w5 B 3 (cellsF intF (upd (dpTo W ks.length s).1 s (scanTo (cAt W ks.length s) s 0).1) NN) := hB6
     clear hF1 hc1 hBx hb hW
     generalize (dpTo W ks.length s).1 = F1 at *
     generalize cAt W ks.length s = cc at *
     go_wp2_with fail
     clear hc4
     go_loopg [73] ks.length (fun gk iv wr => ∃ i : Nat, iv = .int .i64 i ∧ i ≤ ks.length ∧ Hid (gk = ks.length - i) ∧ Box wr B 3 (cellsF intF (upd F1 s (scanTo cc s i).1) NN) ∧ Below wz.heap.size wz wr)
     case atStart => exact ⟨0, rfl, by omega, rfl, hB6, hb5⟩
     case round =>
      clear hB6 hb5
      obtain ⟨i, rfl, hi, hgi, hBx, hb⟩ := hrel
      by_cases hil : i < ks.length
      ·
       have hq := bit_atN s i
       have hi64 : decide ((64 : Int) ≤ (i : Int)) = false := decide_eq_false (by omega)
       have hj0 : (0 : Int) ≤ (i : Int) := by omega
       have hj2 : (i : Int) < (ks.length : Int) := by omega
       have HSi := Lib.hid (HSC.out i)
       have HCi := Lib.hid (HCA.out i)
       generalize scanTo cc s i = S0 at *
       cases hbt : hasN s i
       ·
        rw [hbt, if_neg (by decide)] at hq HSi
        go_wp2_with fail
        go_roundg (ks.length - (i + 1))
        case measure => have := hgi.out; omega
        case rel => exact ⟨i + 1, by go_num, by omega, rfl, by rw [HSi.out]; exact hBx, hb⟩
       ·
        rw [hbt, if_pos rfl] at hq HSi
        have HAn := Lib.hid (andNotW s i (by omega) (by omega) hbt)
        have hrs := drp_lt s i hbt
        have hF1b := HDB.out (drp s i)
        have hF1l := HDL.out (drp s i)
        have hcsb := HCB.out i
        have HC1 := Lib.hid (HCO.out i hil)
        generalize drp s i = r at *
        generalize cstTo W s i ks.length = q at *
        have hcr := hBx.cellF (i := r) (by omega)
        rw [upd_ne _ _ (by omega)] at hcr
        have hr0 : (0 : Int) ≤ (r : Int) := by omega
        have hr2 : (r : Int) < (NN : Int) := by omega
        obtain ⟨c0, hc0⟩ : ∃ c0, c0 = F1 r := ⟨_, rfl⟩
        have hcr2 : wr.cell? ⟨B, r, none⟩ = some (.int .i64 c0) := by rw [hc0]; exact hcr
        rw [← hc0] at hF1b hF1l HCi
        clear hc0 hcr
        obtain ⟨cv, hcv⟩ : ∃ cv, cv = cc i := ⟨_, rfl⟩
        rw [← hcv] at HCi HSi
        have Hw1 : Hid (IntKind.i64.wrap (q + c0) = cv) := by show _ = _; rw [IntWalk.i64_in _ (by omega)]; have := HCi.out; omega
        clear hcv hF1b hF1l hcsb
        have hAn : bits .andNot .i64 (s : Int) (IntKind.i64.wrap ((2 : Int) ^ i)) = ((r : Nat) : Int) := HAn.out
        have hw1 := Hw1.out
        have hbd : Below wz.heap.size wz wr.drew := hb.drew
        have hcs := hBx.cellF hlt
        rw [upd_at] at hcs
        have hBd := hBx.drew
        have hcrd : wr.drew.cell? ⟨B, r, none⟩ = some (.int .i64 c0) := hcr2
        go_upto_region 25 with (fail)
        refine wp_region_held_drew (S := (fun wq => wq.cell? ⟨B, r, none⟩ = some (.int .i64 c0) ∧ wq = wr.drew)) (by kernel_rfl) ?hS (fun hHeld => ?_)
        case hS => exact ⟨hcrd, rfl⟩
        refine rt 0 (some 81) ?_
        refine rt 1 (some 82) ?_
        refine rt 2 (some 83) ?_
        refine rt 4 (some 85) ?_
        refine rt 5 (some 86) ?_
        refine rt 6 (some 87) ?_
        refine rt 7 (some 88) ?_
        refine rt 8 (some 89) ?_
        refine rt 9 (some 90) ?_
        refine rt 10 (some 91) ?_
        refine rcall (i := 3) (d := (some 84)) (by kernel_rfl) rfl (by kernel_rfl) (fun K hK => ?_)
        go_simp
        go_at_call 38; refine (HC1.out _ (by rw [hHeld.2]; exact hbd)).mono ?_; rintro e w9 ⟨rfl, rfl⟩
        refine hK.out _ _ ?hS (fun hHeld => ?_)
        case hS => exact hHeld
        clear hK K
        simp only [Act.put, lsetA, lsetZ, lsetS]
        refine rt 11 (some 92) ?_
        refine rt 12 (some 15) ?_
        refine wpAnyH_done (by kernel_rfl) ?_ _
        have hBu := hBd.setF (enc := intF) s cv
        rw [show upd (upd F1 s S0.1) s cv = upd F1 s cv from by funext x; unfold upd; split <;> rfl] at hBu
        have HBu := Lib.hid hBu
        have Hbu := Lib.hid (hbd.setCell (p := ⟨B, s, none⟩) hB2 (intF cv))
        have HBd := Lib.hid hBd
        have Hbd := Lib.hid hbd
        have hf7 := hBd.frozen s
        clear hHeld hBu hBd hbd hBx hb hcr2 hcrd hAn hw1 HAn Hw1 HC1 hq hi64 HCi hrs hr0 hr2
        rcases S0 with ⟨s0, n0⟩
        have hcs7 : wr.drew.cell? ⟨B, s, none⟩ = some (.int .i64 s0) := hcs
        clear hcs
        simp only at HSi
        generalize wr.drew = w7 at *
        by_cases h1 : s0 < 0
        ·
         have hd1 : decide (s0 < 0) = true := decide_eq_true h1
         rw [if_pos (.inl h1)] at HSi
         go_wp2_with fail
         go_roundg (ks.length - (i + 1))
         case measure => have := hgi.out; omega
         case rel => exact ⟨i + 1, by go_num, by omega, rfl, by rw [HSi.out]; exact HBu.out, Hbu.out⟩
        ·
         have hd1 : decide (s0 < 0) = false := decide_eq_false h1
         by_cases h2 : cv < s0
         ·
          have hd2 : decide (cv < s0) = true := decide_eq_true h2
          rw [if_pos (.inr h2)] at HSi
          go_wp2_with fail
          go_roundg (ks.length - (i + 1))
          case measure => have := hgi.out; omega
          case rel => exact ⟨i + 1, by go_num, by omega, rfl, by rw [HSi.out]; exact HBu.out, Hbu.out⟩
         ·
          have hd2 : decide (cv < s0) = false := decide_eq_false h2
          rw [if_neg (fun h => h.elim h1 h2)] at HSi
          go_wp2_with fail
          go_roundg (ks.length - (i + 1))
          case measure => have := hgi.out; omega
          case rel => exact ⟨i + 1, by go_num, by omega, rfl, by rw [HSi.out]; exact HBd.out, Hbd.out⟩
      ·
       obtain rfl : i = ks.length := by omega
       rw [HNX.out] at hBx
       have hw1 : IntKind.i64.wrap ((s : Int) + 1) = (s : Int) + 1 := IntWalk.i64_in _ (by omega)
       rw [HWE.out] at hBx
       go_wp2_with fail
       go_roundg (NN - (s + 1))
       case measure => have := hgs.out; omega
       case rel => exact ⟨s + 1, by go_num, by omega, by omega, rfl, hBx, hb⟩
    ·
     obtain rfl : s = NN := by omega
     obtain ⟨wy, hwy⟩ : ∃ wy, wy = wr := ⟨_, rfl⟩
     have Hwy := Lib.hid hwy
     have HBX : Hid (∀ V, Below wy.heap.size wy V → Box V B 3 (cellsF intF (dpTo (losW l ks) ks.length s).1 s) ∧ Below wz.heap.size wz V) := fun V h => by rw [hwy] at h; exact ⟨hBx.below h, below_next hb h⟩
     have hwN := HwN.out
     clear hlt hsN hs1 hBx hb hwy
     obtain ⟨R, hR⟩ : ∃ R, R = leastK (losW l ks) ks T := ⟨_, rfl⟩
     have HR := Lib.hid hR
     rw [← hR] at HLL HL
     clear hR
     have HF : Hid (∀ x, 0 ≤ (dpTo (losW l ks) ks.length s).1 x ∧ (dpTo (losW l ks) ks.length s).1 x ≤ 4000 * (x : Int)) := fun x => ⟨dp_low (fun a b => (losW_bd l ks a b).1) s (by rw [← HNN.out]; omega) x, dp_high (by omega) (fun a b => by have := losW_bd l ks a b; omega) ks.length (M := 400) (by omega) s x⟩
     have HCB : Hid (∀ v i, 0 ≤ cstTo (losW l ks) v i ks.length ∧ cstTo (losW l ks) v i ks.length ≤ 4000) := fun v i => by
      have h1 := cst_high (W := losW l ks) (M := 400) (by omega) (fun a b => by have := losW_bd l ks a b; omega) v i ks.length
      have h2 := cst_low (fun a b => (losW_bd l ks a b).1) v i ks.length
      omega
     have HCO := Lib.hid (fun i v (hi : i < ks.length) (hv : v ≤ 16384) V h => costR_any V (HLS.out V h) hl hkn i v hi hv)
     have HCF : Hid (∀ v i, v < s → hasN v i = true → cAt (losW l ks) ks.length v i = (dpTo (losW l ks) ks.length s).1 (drp v i) + cstTo (losW l ks) v i ks.length) := fun v i hv h => by
      have h1 := cAt_full (losW l ks) ks.length h (s := v) (by rw [← HNN.out]; omega)
      rw [← HNN.out] at h1
      exact h1
     go_wp2_with fail
     go_loopg [17, 16] T (fun gk sv ov wx => ∃ (v : Nat) (lv : Value) (acc : List ByteArray), sv = .int .i64 v ∧ lv = ov ∧ v < s ∧ Hid (gk = v) ∧ Own wy.heap.size 9 wx lv acc ∧ Hid (acc ++ leastK (losW l ks) ks v = R) ∧ Below wy.heap.size wy wx)
     case atStart => exact ⟨T, _, [], rfl, rfl, hTN, rfl, Own.nil _ _ _, HR.out.symm, by rw [Hwy.out]; exact Below.refl _ _⟩
     case round =>
      obtain ⟨v, lv, acc, rfl, rfl, hvs, hgv, hown, hacc, hbz9⟩ := hrel
      obtain ⟨hBx, hb⟩ := HBX.out _ hbz9
      by_cases hv0 : v = 0
      ·
       subst hv0
       have hd : decide ((0 : Int) < ((0 : Nat) : Int)) = false := rfl
       have ha2 := hacc.out
       rw [show leastK (losW l ks) ks 0 = [] from rfl, List.append_nil] at ha2
       subst ha2
       have hce := hBx.cellF (i := T) hTN
       have hi0 : (0 : Int) ≤ (T : Int) := by omega
       have hi2 : (T : Int) < (s : Int) := by omega
       have hww := below_next hbz hb
       simp only [intF] at hce
       rw [← HN.out] at hce
       rw [← HL.out] at hown
       have HOW : Hid (Own w.heap.size 9 wr lv (leastL l)) := by
        have h1 := hown
        exact h1.mono (by have := hbz.size; have := (HBX.out wy (Below.refl _ _)).2.size; omega)
       clear HBX HLT HNS hBx hown hacc hb hbz9 HLS HLL Hwy hgv HF HCB HCO HCF hbz
       go_upto_region 39 with (fail)
       go_quiet (fail)
       go_wp2_with fail
       refine bodyPost_ret (v := .tuple #[lv, .int .i64 (leastN l)]) (by simp only [results, Tryz.results17]; go_simp) rfl ?_
       exact ⟨below_drewN hww _, lv, rfl, HOW.out.drewN _⟩
      ·
       have hd : decide ((0 : Int) < (v : Int)) = true := decide_eq_true (by omega)
       have hdN : decide (0 < v) = true := decide_eq_true (by omega)
       obtain ⟨hj, hjb, hjc, hjn⟩ := HNS.out v hv0 hvs
       have HLv := Lib.hid (HLT.out v hv0 hvs)
       have HEQ : Hid (cstTo (losW l ks) v ((dpTo (losW l ks) ks.length s).2 v) ks.length + (dpTo (losW l ks) ks.length s).1 (drp v ((dpTo (losW l ks) ks.length s).2 v)) = (dpTo (losW l ks) ks.length s).1 v) := by
        show _ = _
        rw [← hjc, HCF.out v _ hvs hjb, Int.add_comm]
       have HNE : Hid (∀ i, i < (dpTo (losW l ks) ks.length s).2 v → hasN v i = true → ¬ cstTo (losW l ks) v i ks.length + (dpTo (losW l ks) ks.length s).1 (drp v i) = (dpTo (losW l ks) ks.length s).1 v) := fun i hi h e => hjn i hi h (by rw [HCF.out v i hvs h, Int.add_comm]; exact e)
       clear hjc hjn
       generalize (dpTo (losW l ks) ks.length s).2 v = nx at *
       generalize (dpTo (losW l ks) ks.length s).1 = F at *
       have Hjb := Lib.hid hjb
       have hc4 := (HLS.out _ hb).p
       have hal : acc.length ≤ T := by
        have h1 := congrArg List.length hacc.out
        rw [List.length_append] at h1
        have := HLL.out
        omega
       have HAn := Lib.hid (andNotN v nx (by omega) (by omega) hjb)
       have hdl := drp_lt v nx hjb
       have Hdl := Lib.hid hdl
       have hT16 : T ≤ 16384 := by omega
       rw [show ks.getD nx ⟨#[]⟩ = ks[nx] from by rw [List.getD_eq_getElem?_getD, List.getElem?_eq_getElem hj]; rfl] at HLv
       have Hacc2 : Hid ((acc ++ [ks[nx]]) ++ leastK (losW l ks) ks (drp v nx) = R) := by
        show _ = _
        rw [List.append_assoc, List.singleton_append, ← HLv.out]; exact hacc.out
       clear hjb hBx HLv hacc HLL
       go_wp2_with fail
       clear hc4
       obtain ⟨wv, hwv⟩ : ∃ wv, wv = wr := ⟨_, rfl⟩
       rw [← hwv] at hown hbz9
       have Hwv := Lib.hid hwv
       clear hwv hb
       go_loopg [118, 17, 16] ks.length (fun gk kv sv ov wq => ∃ k : Nat, kv = .int .i64 k ∧ sv = .int .i64 v ∧ lv = ov ∧ k ≤ nx ∧ Hid (gk = ks.length - k) ∧ Below wv.heap.size wv wq)
       case atStart => exact ⟨0, rfl, rfl, rfl, by omega, rfl, by rw [Hwv.out]; exact Below.refl _ _⟩
       case round =>
        obtain ⟨k, rfl, rfl, rfl, hk, hgk, hbq⟩ := hrel
        have hkl : k < ks.length := by omega
        have hby := below_next hbz9 hbq
        obtain ⟨hBq, hbq2⟩ := HBX.out _ hby
        obtain ⟨pb, po, hpa, e0⟩ := ((HLS.out _ hbq2).k).str hkl
        have Hpa := Lib.hid hpa
        rw [hpa]
        clear hpa
        have hq := bit_atN v k
        have hk64 : decide ((64 : Int) ≤ (k : Int)) = false := decide_eq_false (by omega)
        have hk0 : (0 : Int) ≤ (k : Int) := by omega
        have hk2 : (k : Int) < (ks.length : Int) := by omega
        cases hbt : hasN v k
        ·
         have hlt : k < nx := by
          rcases Nat.lt_or_eq_of_le hk with h | h
          ·
           exact h
          ·
           subst h; have := Hjb.out; rw [hbt] at this; cases this
         rw [hbt, if_neg (by decide)] at hq
         go_upto_region 35 with (fail)
         refine wp_region_held_drew (S := (fun wq => wq = wr.drew)) (by kernel_rfl) ?hS (fun hHeld => ?_)
         case hS => exact rfl
         refine rt 0 (some 123) ?_
         refine rt 1 (some 124) ?_
         refine rt 2 (some 125) ?_
         refine rt 3 (some 126) ?_
         refine rt 4 (some 127) ?_
         refine rt 5 (some 128) ?_
         refine rs 6 (some 129) ?_
         refine rs 7 (some 130) ?_
         refine rs 8 (some 131) ?_
         refine rs 10 (some 133) ?_
         refine rs 11 (some 134) ?_
         refine rs 12 (some 135) ?_
         refine rs 13 (some 136) ?_
         refine rs 14 (some 137) ?_
         refine rs 15 (some 138) ?_
         refine rs 16 (some 139) ?_
         refine rs 18 (some 141) ?_
         refine rs 19 (some 142) ?_
         refine rs 20 (some 143) ?_
         refine rs 21 (some 144) ?_
         refine rcall (i := 9) (d := (some 132)) (by kernel_rfl) rfl (by kernel_rfl) (fun K hK => ?_)
         rw [if_neg (by rw [show Region.wanted _ _ = false by kernel_rfl]; decide)]
         refine hK.out _ _ ?hS (fun hHeld => ?_)
         case hS => exact hHeld
         clear hK K
         simp only [Act.put, lsetA, lsetZ, lsetS]
         refine rs 17 (some 140) ?_
         refine rs 22 (some 145) ?_
         refine rt 23 (some 146) ?_
         refine wpAnyH_done (by kernel_rfl) ?_ _
         clear hHeld
         have hbq3 : Below wv.heap.size wv wr.drew := hbq.drew
         go_wp2_with fail
         rw [← Hpa.out]
         go_roundg (ks.length - (k + 1))
         case measure => have := hgk.out; omega
         case rel => exact ⟨k + 1, by go_num, rfl, rfl, by omega, rfl, hbq3⟩
        ·
         rw [hbt, if_pos rfl] at hq
         have HANk := Lib.hid (andNotW v k (by omega) (by omega) hbt)
         have hdk := drp_lt v k hbt
         have hF := HF.out (drp v k)
         have hFv := HF.out v
         have hC := HCB.out v k
         have HC1 := Lib.hid (HCO.out k v hkl (by omega))
         have hw1 : IntKind.i64.wrap (cstTo (losW l ks) v k ks.length + F (drp v k)) = cstTo (losW l ks) v k ks.length + F (drp v k) := IntWalk.i64_in _ (by omega)
         have hc1 := hBq.cellF (i := drp v k) (by omega)
         have hc2 := hBq.cellF hvs
         have hr0 : (0 : Int) ≤ ((drp v k : Nat) : Int) := by omega
         have hr2 : ((drp v k : Nat) : Int) < (s : Int) := by omega
         have hv00 : (0 : Int) ≤ (v : Int) := by omega
         have hv2 : (v : Int) < (s : Int) := by omega
         simp only [intF] at hc1 hc2
         by_cases hkx : k = nx
         ·
          subst hkx
          have heq := HEQ.out
          have hde : (cstTo (losW l ks) v k ks.length + F (drp v k) == F v) = true := by rw [heq]; exact beq_self_eq_true _
          clear heq
          generalize drp v k = r at *
          generalize cstTo (losW l ks) v k ks.length = q at *
          generalize F r = c1 at *
          generalize F v = fv at *
          clear hF hFv hC
          have hAn := HANk.out
          go_upto_region 35 with (fail)
          have hbd : Below wz.heap.size wz wr.drew := hbq2.drew
          refine wp_region_held_drew (S := (fun wq => wq.cell? ⟨B, r, none⟩ = some (.int .i64 c1) ∧ wq.cell? ⟨B, v, none⟩ = some (.int .i64 fv) ∧ wq = wr.drew)) (by kernel_rfl) ?hS (fun hHeld => ?_)
          case hS => exact ⟨hc1, hc2, rfl⟩
          refine rt 0 (some 123) ?_
          refine rt 1 (some 124) ?_
          refine rt 2 (some 125) ?_
          refine rt 3 (some 126) ?_
          refine rt 4 (some 127) ?_
          refine rt 5 (some 128) ?_
          refine rt 6 (some 129) ?_
          refine rt 7 (some 130) ?_
          refine rt 8 (some 131) ?_
          refine rt 10 (some 133) ?_
          refine rt 11 (some 134) ?_
          refine rt 12 (some 135) ?_
          refine rt 13 (some 136) ?_
          refine rt 14 (some 137) ?_
          refine rt 15 (some 138) ?_
          refine rt 16 (some 139) ?_
          refine rt 18 (some 141) ?_
          refine rt 19 (some 142) ?_
          refine rt 20 (some 143) ?_
          refine rt 21 (some 144) ?_
          refine rcall (i := 9) (d := (some 132)) (by kernel_rfl) rfl (by kernel_rfl) (fun K hK => ?_)
          rw [if_pos (by kernel_rfl)]; go_simp; go_at_call 38; refine (HC1.out _ (by rw [hHeld.2.2]; exact hbd)).mono ?_; rintro e w9 ⟨rfl, rfl⟩
          refine hK.out _ _ ?hS (fun hHeld => ?_)
          case hS => exact hHeld
          clear hK K
          simp only [Act.put, lsetA, lsetZ, lsetS]
          refine rt 17 (some 140) ?_
          refine rt 22 (some 145) ?_
          refine rt 23 (some 146) ?_
          refine wpAnyH_done (by kernel_rfl) ?_ _
          clear hHeld hAn hw1 hc1 hc2 hq hde hbd
          have hown5 := (hown.below hbq).drew
          have hAn := HAn.out
          have hsz5 := hby.size
          generalize ks[k] = p at *
          go_wp2_with (at_builtin; refine wpList_append_lie (α := ByteArray) rfl _ _ 29 rfl 9 16 (.string ⟨#[]⟩) Tryz.underlying29 Tryz.infoString rfl lv acc rfl (hown5.alloc _) p _ rfl (Box.new _ _ _) (by omega) (by omega) (by simp; omega) ?_; intro g9 cap9 w9 hown9 hg9 hat9)
          have hk9 : Kp (fun x => lv.ownBlock = some x) wr w9 := (((Kp.refl (fun x => lv.ownBlock = some x) wr).drew).alloc (.cells #[.string p] 9)).grown hg9 (fun x hx => .inl hx)
          have hb9 := belowKp hby hk9 (fun x hx => (hown.lt x hx).1) hby.size
          clear hg9 hk9 hown5
          (try go_wp2_with fail)
          rw [← Hpa.out]
          go_roundg r
          case measure => have := Hdl.out; have := hgv.out; omega
          case rel => exact ⟨r, _, _, rfl, rfl, by omega, rfl, hown9, Hacc2.out, hb9⟩
         ·
          have hne := HNE.out k (by omega) hbt
          have hde : (cstTo (losW l ks) v k ks.length + F (drp v k) == F v) = false := by rw [beq_eq_false_iff_ne]; exact hne
          clear hne
          generalize drp v k = r at *
          generalize cstTo (losW l ks) v k ks.length = q at *
          generalize F r = c1 at *
          generalize F v = fv at *
          clear hF hFv hC
          have hAn := HANk.out
          go_upto_region 35 with (fail)
          have hbd : Below wz.heap.size wz wr.drew := hbq2.drew
          refine wp_region_held_drew (S := (fun wq => wq.cell? ⟨B, r, none⟩ = some (.int .i64 c1) ∧ wq.cell? ⟨B, v, none⟩ = some (.int .i64 fv) ∧ wq = wr.drew)) (by kernel_rfl) ?hS (fun hHeld => ?_)
          case hS => exact ⟨hc1, hc2, rfl⟩
          refine rt 0 (some 123) ?_
          refine rt 1 (some 124) ?_
          refine rt 2 (some 125) ?_
          refine rt 3 (some 126) ?_
          refine rt 4 (some 127) ?_
          refine rt 5 (some 128) ?_
          refine rt 6 (some 129) ?_
          refine rt 7 (some 130) ?_
          refine rt 8 (some 131) ?_
          refine rt 10 (some 133) ?_
          refine rt 11 (some 134) ?_
          refine rt 12 (some 135) ?_
          refine rt 13 (some 136) ?_
          refine rt 14 (some 137) ?_
          refine rt 15 (some 138) ?_
          refine rt 16 (some 139) ?_
          refine rt 18 (some 141) ?_
          refine rt 19 (some 142) ?_
          refine rt 20 (some 143) ?_
          refine rt 21 (some 144) ?_
          refine rcall (i := 9) (d := (some 132)) (by kernel_rfl) rfl (by kernel_rfl) (fun K hK => ?_)
          rw [if_pos (by kernel_rfl)]; go_simp; go_at_call 38; refine (HC1.out _ (by rw [hHeld.2.2]; exact hbd)).mono ?_; rintro e w9 ⟨rfl, rfl⟩
          refine hK.out _ _ ?hS (fun hHeld => ?_)
          case hS => exact hHeld
          clear hK K
          simp only [Act.put, lsetA, lsetZ, lsetS]
          refine rt 17 (some 140) ?_
          refine rt 22 (some 145) ?_
          refine rt 23 (some 146) ?_
          refine wpAnyH_done (by kernel_rfl) ?_ _
          clear hHeld hAn hw1 hc1 hc2 hq hde hbd
          have hbq3 : Below wv.heap.size wv wr.drew := hbq.drew
          go_wp2_with fail
          rw [← Hpa.out]
          go_roundg (ks.length - (k + 1))
          case measure => have := hgk.out; omega
          case rel => exact ⟨k + 1, by go_num, rfl, rfl, by omega, rfl, hbq3⟩
end Go.Proofs.YtcjcdbhobehlpaaGreatDoor
