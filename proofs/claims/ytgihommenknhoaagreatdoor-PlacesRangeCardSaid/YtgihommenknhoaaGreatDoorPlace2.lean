/- The best and the worst place of a paper: RangeOf of the reference. -/
import Derived.Test.YtgihommenknhoaaGreatDoorPlace1
import Derived.Test.YtgihommenknhoaaGreatDoorRanked
import Derived.Test.YtgihommenknhoaaGreatDoorAppAll
namespace Go.Proofs.YtgihommenknhoaaGreatDoor
open Go.RowKit Go.Sort
set_option linter.unusedVariables false
set_option linter.unusedSimpArgs false

set_option maxRecDepth 100000 in
set_option maxHeartbeats 4000000 in
theorem rangeOf_any (l : List Mark) (a : Option Addr) (cap : Nat) (p : ByteArray) (how : Int) (w : World) (hs : SA w a l) (hf : a = none ∨ ∃ b off, a = some ⟨b, off, none⟩) (hl : l.length ≤ 400) (h0 : marksFault l = 0) (hh1 : 1 ≤ how) (hh2 : how ≤ 5) (hkn : (keysOf (fun x => x.1) l).length ≤ 19) (hp : ofP l p ≠ []) :
    Calls Tryz.prog 14 #[.slice a l.length cap, .string p, .int .i64 how] w (Gives (.tuple #[.int .i64 (rangeN l how p).1, .int .i64 (rangeN l how p).2]) w) := by
  have HR0 := range_ref h0 how p hp
  have hne : keysOf (fun x => x.2.1) l ≠ [] := fun e => by
    obtain ⟨x, hx, _⟩ : ∃ x ∈ l, x.1 = p := Classical.byContradiction fun g => hp (sel_nil.2 g)
    have := (keysOf_mem (fun x => x.2.1) l x.2.1).2 ⟨x, hx, rfl⟩
    rw [e] at this
    cases this
  have hkl := keysOf_length (fun x => x.2.1) l
  have HMk := Lib.hid (fun W (h : SA W a l) => Markers_any l a cap W h (by omega))
  obtain ⟨r1, r2, hr⟩ : ∃ r1 r2, rangeN l how p = (r1, r2) := ⟨_, _, rfl⟩
  rw [hr] at HR0 ⊢
  simp only
  obtain ⟨ks, hks⟩ : ∃ ks, keysOf (fun x => x.2.1) l = ks := ⟨_, rfl⟩
  rw [hks] at HR0 hne hkl HMk
  obtain ⟨L, hL⟩ : ∃ L, (⟨#[]⟩ : ByteArray) :: ks = L := ⟨_, rfl⟩
  rw [hL] at HR0
  have HR := Lib.hid HR0
  have hLen : [(⟨#[]⟩ : ByteArray)].length + ks.length = L.length := by rw [← hL]; simp; omega
  have HApp := Lib.hid (show [(⟨#[]⟩ : ByteArray)] ++ ks = L from hL)
  have hLb : L.length ≤ 401 := by rw [← hLen]; simp; omega
  have HLen := Lib.hid hLen
  have Hne := Lib.hid hne
  have HS : Hid (∀ W, Below w.heap.size w W → SA W a l) := fun W h => hs.below h
  clear HR0 hr hks hL hp hLen hne
  have hb0 : Below w.heap.size w (w.alloc (.cells #[.string ⟨#[]⟩] 9)) := (Below.refl _ _).alloc (Nat.le_refl _) _
  have hB0 := Box.new w 9 #[.string ⟨#[]⟩]
  go_enter Tryz.func14, Tryz.ntmps14
  go_wp2_with fail
  refine (HMk.out _ (HS.out _ hb0)).mono ?_
  rintro e wk ⟨vk, rfl, hownk, hbk⟩
  obtain ⟨aK, capK, rfl, hsaK, _, _⟩ := hownk.sa
  have hBk := hB0.below hbk
  have hown0 : Own w.heap.size 9 wk (.slice (some ⟨w.heap.size, 0, none⟩) 1 1) [(⟨#[]⟩ : ByteArray)] := Own.ofBox hBk rfl (Nat.le_refl _) (by simp)
  have hbw := below_next hb0 hbk
  have hzk := hbw.size
  clear hownk hbk hb0 hB0
  go_wp2_with (at_builtin; refine wpList_append_more rfl _ _ 36 rfl 9 16 (.string ⟨#[]⟩) Tryz.underlying36 Tryz.infoString rfl _ [(⟨#[]⟩ : ByteArray)] rfl hown0 ks aK capK rfl hsaK Hne.out ?c1 ?c2 ?c3 ?_; rotate_left 3; intro g cg w2 hown2 hg2 hat; rw [HLen.out] at hown2 ⊢; rw [HApp.out] at hown2)
  case c1 => rw [HLen.out]; omega
  case c2 => rw [HLen.out]; omega
  case c3 => exact hzk
  have hb2 : Below w.heap.size w w2 := hbw.grown hg2 hzk (fun j hj => by cases hj; exact Nat.le_refl _)
  obtain ⟨aL, capL, hv, hsaL, hbL, _⟩ := hown2.sa
  simp only [Value.slice.injEq] at hv
  obtain ⟨rfl, _, rfl⟩ := hv
  have hz2 := hb2.size
  clear hown2 hg2 hat hown0 hBk hsaK hbw hzk hbL
  go_wp2_with fail
  go_loopg [6, 7, 20] L.length (fun gk v6 v7 i wr => ∃ (k : Nat) (x1 x2 : Int), i = .int .i64 k ∧ k ≤ L.length ∧ Hid (gk = L.length - k) ∧ v6 = .int .i64 x1 ∧ v7 = .int .i64 x2 ∧ Hid (bwL (plW l how p) ((l.length : Int) + 1, 0) (L.take k) = (x1, x2)) ∧ Below w2.heap.size w2 wr)
  case atStart => exact ⟨0, (l.length : Int) + 1, 0, rfl, by omega, rfl, rfl, rfl, rfl, Below.refl _ _⟩
  obtain ⟨k, x1, x2, rfl, hk, hgk, rfl, rfl, hbw, hb⟩ := hrel
  have hbr := below_next hb2 hb
  by_cases hlt : k < L.length
  · obtain ⟨kb, koff, haK, ck⟩ := (hsaL.below hb).str hlt
    have htake := List.take_succ_eq_append_getElem hlt
    have Hsn := Lib.hid (bwL_snoc (plW l how p) ((l.length : Int) + 1, 0) (L.take k) L[k])
    rw [← htake, hbw.out] at Hsn
    have HaK := Lib.hid haK
    rw [haK]
    clear haK htake hbw
    generalize L[k] = q at *
    have Hpos : Hid (0 < placeL (outM l q) how p → bwS (plW l how p) (x1, x2) q = (min x1 (placeL (outM l q) how p), max x2 (placeL (outM l q) how p))) := fun h => by unfold bwS plW; rw [if_pos h]
    have Hneg : Hid (placeL (outM l q) how p ≤ 0 → bwS (plW l how p) (x1, x2) q = (x1, x2)) := fun h => by unfold bwS plW; rw [if_neg (by omega)]
    generalize plW l how p = pf at *
    have hbN := hbr.alloc hbr.size (.cells #[.string q] 9)
    have hB := Box.new wr 9 #[.string q]
    have hzN : wr.heap.size < (wr.alloc (.cells #[.string q] 9)).heap.size := by simp
    have hbbN : Below w2.heap.size w2 (wr.alloc (.cells #[.string q] 9)) := hb.alloc hb.size _
    have hcl := Lib.hid (cloneMark_any l a cap _ (HS.out _ hbN) hf (by omega))
    go_upto_region 5 with (fail)
    generalize wr.alloc (.cells #[.string q] 9) = wN at *
    generalize wr.heap.size = bq at *
    clear ck
    go_wp2_with fail
    refine hcl.out.mono ?_
    rintro e wA ⟨vc, rfl, hownc, hbA⟩
    obtain ⟨ac, capc, rfl, _, _, _⟩ := hownc.form
    have hdel := Lib.hid (delR_any wN.heap.size l (.slice ac l.length capc) q bq wA hownc (by omega) (hB.below hbA) hzN hbA.size)
    clear hownc hcl hB
    go_wp2_with fail
    refine hdel.out.mono ?_
    rintro e wB ⟨a4, cap4, rfl, hsa4, hkB⟩
    have hbB : Below wN.heap.size wN wB := hbA.trans hkB
    have hlk0 : (outM l q).length ≤ 400 := Nat.le_trans (outM_len l q) hl
    have HRk := Lib.hid (rankedOf_any (outM l q) a4 cap4 how wB hsa4 hlk0 (outM_fault h0 q) hh1 hh2 (outM_keys hkn q))
    have hok2 : (orderL (outM l q) how).length ≤ 19 := by unfold orderL; rw [isort_length]; exact outM_keys hkn q
    have hplb := placeL_bd (outM l q) how p
    have hwk : IntKind.i64.wrap (Lib.idxOfS (orderL (outM l q) how) p + 1) = placeL (outM l q) how p := IntWalk.i64_in _ (by unfold placeL at hplb; omega)
    clear hbA hkB hdel
    generalize placeL (outM l q) how p = pk at *
    generalize orderL (outM l q) how = olk at *
    generalize outM l q = lk at *
    go_wp2_with fail
    refine HRk.out.mono ?_
    rintro e wD ⟨vD, rfl, hownD, hbD⟩
    obtain ⟨aD, capD, rfl, hsaD, _, _⟩ := hownD.sa
    have hbbD : Below w2.heap.size w2 wD := below_next (hbbN.trans (hbB.mono hbbN.size)) hbD
    clear hownD HRk hsa4 hbD hbB hbN hbbN
    go_wp2_with fail
    refine (index_any _ aD capD p _ hsaD (by omega)).mono ?_
    rintro e wE ⟨rfl, rfl⟩
    clear hsaD
    generalize Lib.idxOfS olk p = ixk at *
    by_cases hpos : 0 < pk
    · have Hs := Lib.hid (Hpos.out hpos)
      go_wp2_with fail
      rw [← HaK.out]
      go_roundg (L.length - (k + 1))
      case measure => have := hgk.out; omega
      case rel => exact ⟨k + 1, min x1 pk, max x2 pk, by go_num, by omega, rfl, rfl, rfl, by show _ = _; rw [Hsn.out, Hs.out], hbbD⟩
    · have Hs := Lib.hid (Hneg.out (by omega))
      go_wp2_with fail
      rw [← HaK.out]
      go_roundg (L.length - (k + 1))
      case measure => have := hgk.out; omega
      case rel => exact ⟨k + 1, x1, x2, by go_num, by omega, rfl, rfl, rfl, by show _ = _; rw [Hsn.out, Hs.out], hbbD⟩
  · obtain rfl : k = L.length := by omega
    have hrr := hbw.out
    rw [List.take_length, HR.out] at hrr
    simp only [Prod.mk.injEq] at hrr
    obtain ⟨rfl, rfl⟩ := hrr
    clear hlt
    go_wp2_with fail
    exact bodyPost_ret (v := .tuple #[.int .i64 r1, .int .i64 r2]) (by simp only [results, Tryz.results14]; go_simp) rfl ⟨rfl, hbr⟩
end Go.Proofs.YtgihommenknhoaaGreatDoor
