/- For every list of raw numbers, PapersStrong returns true. The walk. -/
import Derived.Test.YtcjcdbhobehlpaaGreatDoorStr2
import Derived.Test.YtcjcdbhobehlpaaGreatDoorStr5
import Derived.Test.YtcjcdbhobehlpaaGreatDoorPOrd
import Derived.Test.YtcjcdbhobehlpaaGreatDoorMakeMark2
namespace Go.Proofs.YtcjcdbhobehlpaaGreatDoor.papersStrong
open Go.RowKit
set_option linter.unusedVariables false
set_option linter.unusedSimpArgs false

set_option maxRecDepth 100000 in
set_option maxHeartbeats 8000000 in
theorem walk (a0 : Option Addr) (len0 cap0 : Nat) (z0 : List Int) (w : World) (w0 : IsRow .i64 w a0 len0 cap0 z0) :
  Calls Tryz.prog 3 #[.slice a0 len0 cap0] w fun e w' => e = .returned (.bool true) ∧ Below w.heap.size w w' := by
 have hs := strm_new w0
 go_enter Tryz.func3, Tryz.ntmps3
 go_wp2_with fail
 refine (pick_box w.heap.size 0 (w.heap.size + 1) 3 7 [0, 1, 3, 5, 8, 9, 10] _ (hs.alloc _) (by omega) (Box.newAt _ _ _ _ (by simp)) (by omega) (by decide) (by decide)).mono ?_
 rintro e w1 ⟨np, hnp, rfl, h1, s1⟩
 have hst1 : Stp w.heap.size w w1 := (((Stp.refl _ w).alloc _).alloc _).trans h1
 have hz1 := h1.size
 simp at hz1
 have hnp2 : 0 ≤ np ∧ np ≤ 10 := by simp at hnp; omega
 obtain ⟨m, rfl⟩ := Int.eq_ofNat_of_zero_le hnp2.1
 clear hs h1 hnp w0
 go_wp2_with fail
 refine (pick_box w.heap.size (0 + 1) _ 3 3 [1, 3, 5] _ (s1.alloc _) (by omega) (Box.new _ _ _) (by omega) (by decide) (by decide)).mono ?_
 rintro e w2 ⟨nq, hnq, rfl, h2, s2⟩
 have hst2 := (hst1.alloc _).trans h2
 have hz2 := h2.size
 simp at hz2
 have hnq2 : 0 ≤ nq ∧ nq ≤ 10 := by simp at hnq; omega
 obtain ⟨q, rfl⟩ := Int.eq_ofNat_of_zero_le hnq2.1
 clear s1 h2 hnq hst1
 go_wp2_with fail
 refine (marksN_any w.heap.size (0 + 1 + 1) m q _ s2 (by omega) (by omega) (by omega)).mono ?_
 rintro e w3 ⟨l, v, rfl, hown, hlen, hsm, h3, s3, names, hn1, hn2⟩
 have hkn : (keysOf (fun x => x.1) l).length ≤ 19 := by
  have := nodup_len (a := keysOf (fun x => x.1) l) (b := names) (keysS_rise _).nodup (fun p hp => by
   rw [keysOf_mem] at hp
   obtain ⟨x, hx, rfl⟩ := hp
   exact hn2 x hx)
  omega
 clear hn1 hn2
 obtain ⟨a, cap, rfl, hsa, hform, -⟩ := hown.form
 have hst3 := hst2.trans h3
 have hz3 := h3.size
 have Hks : Hid (∀ x ∈ l, x.1.size ≤ 1000 ∧ x.2.1.size ≤ 1000) := fun x hx => ⟨(hsm x hx).1, (hsm x hx).2.1⟩
 have HnS : Hid (∀ x : Addr, a = some x → x.block ≠ w.heap.size) := fun x hx => by
  rcases hform with h | ⟨b, h, hb1, _⟩
  ·
   rw [h] at hx; cases hx
  ·
   rw [h] at hx; cases hx; simp; omega
 clear hown hform h3 hsm s2 hst2
 go_wp2_with fail
 refine (paperOrder_any w.heap.size _ l a cap _ s3 (by omega) hsa hlen (fun x hx => (Hks.out x hx).1) hkn).mono ?_
 rintro e w4 ⟨oa, ol, oc, rfl, hso, hol, hoc, hoz, h4, s4⟩
 have hsa4 := hsa.stp h4 HnS.out
 have hst4 := hst3.trans h4
 have hbw4 : Below w.heap.size w w4 := by have := hst4.below; rw [Nat.min_self] at this; exact this
 clear hsa hst3 h4 s3 hst4 s4 HnS hoz hz1 hz2 hz3 hnp2 hnq2
 have HS := Lib.hid (fun W (h : SA W a l) => strongest_any l a cap W h hlen Hks.out hkn)
 have HA := Lib.hid (fun W (h : SA W a l) (ho : SA W oa ol) => against_any l a cap ol oa oc W h hlen Hks.out ho (by omega) hoc)
 have HLe := Lib.hid (fun W (h : SA W a l) => least_any l a cap W h hlen Hks.out hkn)
 have HF := Lib.hid (fun W (h : SA W a l) => marksFault_any l a cap W h (by omega) Hks.out)
 have HSO := Lib.hid (fun W (h : SA W a l) => strongestOf_any l a cap W h hlen Hks.out hkn)
 have HOF := Lib.hid (fun W (h : SA W a l) (ho : SA W oa ol) => orderFault_any l a cap ol oa oc W h hlen ho (by omega) hoc)
 have HAO := Lib.hid (fun W (h : SA W a l) (ho : SA W oa ol) => againstOf_any l a cap ol oa oc W h hlen ho (by omega) hoc)
 have HMP := Lib.hid (fun W (h : SA W a l) => MarkedPapers_any l a cap W h (by omega))
 have HLO : Hid ((keysOf (fun x => x.1) l).length ≤ 9 → ∀ W, SA W a l → Calls Tryz.prog 17 #[.slice a l.length cap] W (LeastRRes l W)) := fun h9 W h => leastOf_any l a cap W h hlen h9
 have HAE1 : Hid (marksFault l ≠ 0 → agE l ol = marksFault l) := fun h => by unfold agE; rw [if_pos h]
 have HAE2 : Hid (marksFault l = 0 → agE l ol = orderF (keysOf (fun x => x.1) l) ol) := fun h => by unfold agE; rw [if_neg (by simpa using h)]
 have HLE1 : Hid (marksFault l ≠ 0 → leastE l = marksFault l) := fun h => by unfold leastE; rw [if_pos h]
 have HLE20 : Hid (marksFault l = 0 → 9 < (keysOf (fun x => x.1) l).length → leastE l = 2) := fun h h9 => by unfold leastE; rw [if_neg (by simpa using h), if_pos h9]
 have HLE30 : Hid (marksFault l = 0 → ¬ 9 < (keysOf (fun x => x.1) l).length → leastE l = 0) := fun h h9 => by unfold leastE; rw [if_neg (by simpa using h), if_neg h9]
 have hsl : (strongL l).length ≤ 19 := by unfold strongL; rw [isort_length]; exact hkn
 have hll : (leastL l).length ≤ 600000 := by
  refine Nat.le_trans (leastK_len (fun a b => (losW_bd l (keysOf (fun x => x.1) l) a b).1) _ (s := 2 ^ (keysOf (fun x => x.1) l).length - 1) (Nat.sub_lt (Nat.pow_pos (by omega)) (by omega))) ?_
  have : 2 ^ (keysOf (fun x => x.1) l).length ≤ 2 ^ 19 := Nat.pow_le_pow_right (by omega) hkn
  omega
 have HAV : Hid (agE l ol = 0 → (if agE l ol = 0 then agO l ol ol.length else 0) = agO l ol ol.length) := fun h => by rw [if_pos h]
 unfold LeastRes at HLe
 unfold LeastRRes at HLO
 generalize (if agE l ol = 0 then agO l ol ol.length else 0) = av at *
 generalize orderF (keysOf (fun x => x.1) l) ol = of at *
 generalize keysOf (fun x => x.1) l = ks at *
 generalize agE l ol = ae at *
 generalize agO l ol ol.length = an at *
 generalize leastE l = le at *
 generalize leastL l = ll at *
 generalize leastN l = ln at *
 generalize strongL l = sl at *
 generalize marksFault l = pf at *
 go_wp2_with fail
 refine (HS.out _ hsa4).mono ?_
 rintro e w5 ⟨hb5, sa5, sn, sc5, rfl, hsn, hs5⟩
 have hsa5 := hsa4.below hb5
 have hso5 := hso.below hb5
 have hbw5 := below_next hbw4 hb5
 have Hs5 := Lib.hid hs5
 clear hsa4 hso hbw4 hb5 HS hs5
 go_wp2_with fail
 refine (HA.out _ hsa5 hso5).mono ?_
 rintro e w6 ⟨rfl, hb6⟩
 have hsa6 := hsa5.below hb6
 have hso6 := hso5.below hb6
 have hbw6 := below_next hbw5 hb6
 have Hs6 : Hid (pf = 0 → sn = sl.length ∧ SA w6 sa5 sl) := fun h => ⟨(Hs5.out h).1, (Hs5.out h).2.below hb6⟩
 clear hsa5 hso5 hbw5 hb6 HA Hs5
 go_wp2_with fail
 refine (HLe.out _ hsa6).mono ?_
 rintro e w7 ⟨hb7, h7⟩
 obtain ⟨la7, ln7, lv7, lc7, he7, hlv7⟩ : ∃ la7 ln7 lv7 lc7, e = .returned (.tuple #[.slice la7 ln7 lc7, .int .i64 lv7, .int .i64 le]) ∧ (le = 0 → ln7 = ll.length ∧ lv7 = ln ∧ SA w7 la7 ll) := by
  rcases h7 with ⟨h, rfl⟩ | ⟨h, aa, cc, rfl, hh⟩
  ·
   exact ⟨none, 0, 0, 0, rfl, fun h' => absurd h' h⟩
  ·
   exact ⟨aa, _, _, cc, by rw [h], fun _ => ⟨rfl, rfl, hh⟩⟩
 subst he7
 have hsa7 := hsa6.below hb7
 have hso7 := hso6.below hb7
 have hbw7 := below_next hbw6 hb7
 have Hs7 : Hid (pf = 0 → sn = sl.length ∧ SA w7 sa5 sl) := fun h => ⟨(Hs6.out h).1, (Hs6.out h).2.below hb7⟩
 have HLV := Lib.hid hlv7
 clear hsa6 hso6 hbw6 hb7 HLe Hs6 h7 hlv7
 go_wp2_with fail
 refine (HF.out _ hsa7).mono ?_
 rintro e w8 ⟨rfl, hb8⟩
 have hsa8 := hsa7.below hb8
 have hso8 := hso7.below hb8
 have hbw8 := below_next hbw7 hb8
 by_cases h0 : pf = 0
 ·
  subst h0
  have hae := HAE2.out rfl
  subst hae
  have HLE2 : Hid (9 < ks.length → le = 2) := fun h => HLE20.out rfl h
  have HLE3 : Hid (¬ 9 < ks.length → le = 0) := fun h => HLE30.out rfl h
  obtain ⟨hsn2, hs7⟩ := Hs7.out rfl
  subst hsn2
  have HL7 : Hid (le = 0 → SA w7 la7 ll) := fun h => (HLV.out h).2.2
  have hs8 := hs7.below hb8
  clear HAE1 HAE2 HLE1 HLE20 HLE30 Hs7 hs7 HF hsa7 hso7 hbw7
  go_wp2_with fail
  refine (HSO.out _ hsa8).mono ?_
  rintro e w9 ⟨vs, rfl, hownS, hb9⟩
  obtain ⟨sa1, sc1, rfl, hsa1, -, -⟩ := hownS.sa
  have hs9 := hs8.below hb9
  have hsa9 := hsa8.below hb9
  have hso9 := hso8.below hb9
  have hbw9 := below_next hbw8 hb9
  have hb79 := below_next hb8 hb9
  clear hownS hs8 hsa8 hso8 hbw8 hb8 hb9 HSO
  go_wp2_with fail
  refine (equal_any sl sl sa5 sa1 sc5 sc1 _ hs9 hsa1 (by omega) (by omega)).mono ?_
  rw [decide_eq_true (rfl : sl = sl)]
  rintro e wA ⟨rfl, nA, rfl⟩
  have hsaA := hsa9.drewN nA
  have hsoA := hso9.drewN nA
  have hbwA := below_drewN hbw9 nA
  have hb7A := below_drewN hb79 nA
  clear hs9 hsa1 hsa9 hso9 hbw9 hb79
  generalize w9.drewN nA = wA at *
  go_wp2_with fail
  refine (HOF.out _ hsaA hsoA).mono ?_
  rintro e wB ⟨rfl, hbB⟩
  have hsaB := hsaA.below hbB
  have hsoB := hsoA.below hbB
  have hbwB := below_next hbwA hbB
  have hb7B := below_next hb7A hbB
  clear hsaA hsoA hbwA hb7A hbB HOF
  have hq1 : (ae != ae) = false := by simp
  by_cases hof : ae = 0
  ·
   subst hof
   have hav := HAV.out rfl
   subst hav
   have hq2 : (av != av) = false := by simp
   clear HAV
   go_wp2_with fail
   refine (HAO.out _ hsaB hsoB).mono ?_
   rintro e wE ⟨rfl, hbE⟩
   have hsaE := hsaB.below hbE
   have hbwE := below_next hbwB hbE
   have hb7E := below_next hb7B hbE
   clear hsaB hsoB hbwB hb7B hbE HAO
   go_wp2_with fail
   refine (HMP.out _ hsaE).mono ?_
   rintro e wF ⟨vk, rfl, hownk, hbF⟩
   obtain ⟨ka, kc, rfl, -, -, -⟩ := hownk.sa
   have hsaF := hsaE.below hbF
   have hbwF := below_next hbwE hbF
   have hLF := fun h => (HL7.out h).below (below_next hb7E hbF)
   clear hownk hsaE hbwE
   by_cases h9 : 9 < ks.length
   ·
    have hd9 : decide ((9 : Int) < (ks.length : Int)) = true := decide_eq_true (by omega)
    have hle := HLE2.out h9
    subst hle
    go_wp2_with fail
    refine (scores_any _).mono ?_
    rintro e wG ⟨rfl, hbG⟩
    go_wp2_with fail
    go_ret
    exact ⟨rfl, below_next hbwF hbG⟩
   ·
    have hd9 : decide ((9 : Int) < (ks.length : Int)) = false := decide_eq_false (by omega)
    have hle := HLE3.out h9
    subst hle
    obtain ⟨h71, h72, h73⟩ := HLV.out rfl
    subst h71 h72
    have hLa := hLF rfl
    have HLO2 := Lib.hid (HLO.out (by omega) _ hsaF)
    clear hLF h9
    go_wp2_with fail
    refine HLO2.out.mono ?_
    rintro e wG ⟨hbG, vo, rfl, hownO⟩
    obtain ⟨la1, lc1, rfl, hla1, -, -⟩ := hownO.sa
    have hLG := hLa.below hbG
    have hbwG := below_next hbwF hbG
    clear hownO hsaF
    go_wp2_with fail
    refine (scores_any _).mono ?_
    rintro e wH ⟨rfl, hbH⟩
    have hLH := hLG.below hbH
    have hla2 := hla1.below hbH
    have hbwH := below_next hbwG hbH
    go_wp2_with fail
    refine (equal_any ll ll la7 la1 lc7 lc1 _ hLH hla2 (by omega) (by omega)).mono ?_
    rw [decide_eq_true (rfl : ll = ll)]
    rintro e wK ⟨rfl, nK, rfl⟩
    go_wp2_with fail
    go_ret
    exact ⟨rfl, below_drewN hbwH _⟩
  ·
   have hq2 : (ae == 0) = false := by simpa using hof
   have hsaE := hsaB
   have hbwE := hbwB
   have hb7E := hb7B
   clear hsaB hsoB hbwB hb7B HAO hof HAV
   go_wp2_with fail
   refine (HMP.out _ hsaE).mono ?_
   rintro e wF ⟨vk, rfl, hownk, hbF⟩
   obtain ⟨ka, kc, rfl, -, -, -⟩ := hownk.sa
   have hsaF := hsaE.below hbF
   have hbwF := below_next hbwE hbF
   have hLF := fun h => (HL7.out h).below (below_next hb7E hbF)
   clear hownk hsaE hbwE
   by_cases h9 : 9 < ks.length
   ·
    have hd9 : decide ((9 : Int) < (ks.length : Int)) = true := decide_eq_true (by omega)
    have hle := HLE2.out h9
    subst hle
    go_wp2_with fail
    refine (scores_any _).mono ?_
    rintro e wG ⟨rfl, hbG⟩
    go_wp2_with fail
    go_ret
    exact ⟨rfl, below_next hbwF hbG⟩
   ·
    have hd9 : decide ((9 : Int) < (ks.length : Int)) = false := decide_eq_false (by omega)
    have hle := HLE3.out h9
    subst hle
    obtain ⟨h71, h72, h73⟩ := HLV.out rfl
    subst h71 h72
    have hLa := hLF rfl
    have HLO2 := Lib.hid (HLO.out (by omega) _ hsaF)
    clear hLF h9
    go_wp2_with fail
    refine HLO2.out.mono ?_
    rintro e wG ⟨hbG, vo, rfl, hownO⟩
    obtain ⟨la1, lc1, rfl, hla1, -, -⟩ := hownO.sa
    have hLG := hLa.below hbG
    have hbwG := below_next hbwF hbG
    clear hownO hsaF
    go_wp2_with fail
    refine (scores_any _).mono ?_
    rintro e wH ⟨rfl, hbH⟩
    have hLH := hLG.below hbH
    have hla2 := hla1.below hbH
    have hbwH := below_next hbwG hbH
    go_wp2_with fail
    refine (equal_any ll ll la7 la1 lc7 lc1 _ hLH hla2 (by omega) (by omega)).mono ?_
    rw [decide_eq_true (rfl : ll = ll)]
    rintro e wK ⟨rfl, nK, rfl⟩
    go_wp2_with fail
    go_ret
    exact ⟨rfl, below_drewN hbwH _⟩
 ·
  have h1 := HAE1.out h0
  subst h1
  have h2 := HLE1.out h0
  subst h2
  have h0a : (le != 0) = true := by simpa using h0
  have h0c : (le == le) = true := by simp
  clear h0
  go_wp2_with fail
  refine (scores_any _).mono ?_
  rintro e w11 ⟨rfl, hb11⟩
  go_wp2_with fail
  go_ret
  exact ⟨rfl, below_next hbw8 hb11⟩
end Go.Proofs.YtcjcdbhobehlpaaGreatDoor.papersStrong
