/- The order that the fewest marks contradict: Least of the program. -/
import Derived.Test.YtcjcdbhobehlpaaGreatDoorStr1
import Derived.Test.YtcjcdbhobehlpaaGreatDoorLstP
namespace Go.Proofs.YtcjcdbhobehlpaaGreatDoor
open Go.RowKit
set_option linter.unusedVariables false
set_option linter.unusedSimpArgs false

/-- How often the paper at k wins against the one at i. -/
def losW (l : List Mark) (ks : List ByteArray) (k i : Nat) : Int := (rowOf l ks k).getD i 0
theorem losW_bd (l : List Mark) (ks : List ByteArray) (k i : Nat) : 0 ≤ losW l ks k i ∧ losW l ks k i ≤ l.length := by
  unfold losW
  rw [List.getD_eq_getElem?_getD]
  unfold rowOf
  rw [List.getElem?_map]
  cases e : ks[i]? with
  | none => simp
  | some b => simpa using winsN_bd l (ks.getD k ⟨#[]⟩) b
def leastE (l : List Mark) : Int := if marksFault l ≠ 0 then marksFault l else if 9 < (keysOf (fun x => x.1) l).length then 2 else 0
def leastK (W : Nat → Nat → Int) (ks : List ByteArray) (s : Nat) : List ByteArray := (ordS W ks.length s).map (fun i => ks.getD i ⟨#[]⟩)
def leastL (l : List Mark) : List ByteArray := leastK (losW l (keysOf (fun x => x.1) l)) (keysOf (fun x => x.1) l) (2 ^ (keysOf (fun x => x.1) l).length - 1)
def leastN (l : List Mark) : Int := (dpTo (losW l (keysOf (fun x => x.1) l)) (keysOf (fun x => x.1) l).length (2 ^ (keysOf (fun x => x.1) l).length)).1 (2 ^ (keysOf (fun x => x.1) l).length - 1)
/-- What both answer. -/
def LeastRes (l : List Mark) (w : World) (e : Ending) (w' : World) : Prop := Below w.heap.size w w' ∧
  ((leastE l ≠ 0 ∧ e = .returned (.tuple #[.slice none 0 0, .int .i64 0, .int .i64 (leastE l)])) ∨
   (leastE l = 0 ∧ ∃ a c, e = .returned (.tuple #[.slice a (leastL l).length c, .int .i64 (leastN l), .int .i64 0]) ∧ SA w' a (leastL l)))
theorem bst_step (W : Nat → Nat → Int) (n : Nat) {s : Nat} (h : s ≠ 0) : upd (dpTo W n s).1 s (scanTo (cAt W n s) s n).1 = (dpTo W n (s + 1)).1 ∧ upd (dpTo W n s).2 s (scanTo (cAt W n s) s n).2 = (dpTo W n (s + 1)).2 := by
  rw [dp_succ W n h]
  exact ⟨rfl, rfl⟩
theorem dp_one (W : Nat → Nat → Int) (n : Nat) : dpTo W n 1 = (fun _ => 0, fun _ => 0) := by rw [dpTo, if_pos rfl, dpTo]
theorem leastK_step {W : Nat → Nat → Int} (hW : ∀ a b, 0 ≤ W a b) (ks : List ByteArray) {s : Nat} (h0 : s ≠ 0) (hs : s < 2 ^ ks.length) : leastK W ks s = ks.getD ((dpTo W ks.length (2 ^ ks.length)).2 s) ⟨#[]⟩ :: leastK W ks (drp s ((dpTo W ks.length (2 ^ ks.length)).2 s)) := by
  unfold leastK
  rw [ordS_step hW h0 hs, List.map_cons]
theorem leastK_len {W : Nat → Nat → Int} (hW : ∀ a b, 0 ≤ W a b) (ks : List ByteArray) {s : Nat} (hs : s < 2 ^ ks.length) : (leastK W ks s).length ≤ s := by
  unfold leastK
  rw [List.length_map]
  exact ordS_len hW s hs
def natF (v : Nat) : Value := .int .i64 (v : Int)
set_option maxRecDepth 100000 in
set_option maxHeartbeats 8000000 in
theorem least_any (l : List Mark) (a : Option Addr) (cap : Nat) (w : World) (hs : SA w a l) (hl : l.length ≤ 400) (hks : ∀ x ∈ l, x.1.size ≤ 1000 ∧ x.2.1.size ≤ 1000) (hkn : (keysOf (fun x => x.1) l).length ≤ 19) :
    Calls Tryz.prog 9 #[.slice a l.length cap] w (LeastRes l w) := by
  obtain ⟨ks, hkk⟩ : ∃ ks, keysOf (fun x => x.1) l = ks := ⟨_, rfl⟩
  have HKK := Lib.hid hkk
  have HE : Hid (leastE l = if marksFault l ≠ 0 then marksFault l else if 9 < ks.length then 2 else 0) := by show _ = _; rw [← hkk]; rfl
  have HL : Hid (leastL l = leastK (losW l ks) ks (2 ^ ks.length - 1)) := by show _ = _; rw [← hkk]; rfl
  have HN : Hid (leastN l = (dpTo (losW l ks) ks.length (2 ^ ks.length)).1 (2 ^ ks.length - 1)) := by show _ = _; rw [← hkk]; rfl
  rw [hkk] at hkn
  clear hkk
  go_enter Tryz.func9, Tryz.ntmps9
  go_wp2_with fail
  refine (checked_any l a cap _ hs (by omega) hks).mono ?_
  rintro e w1 ⟨hb1, h1⟩
  rcases h1 with ⟨h0, rfl⟩ | ⟨h0, sb, rfl, hsh, hsb⟩
  · have h0' : (marksFault l != 0) = true := by simpa using h0
    have H0 := Lib.hid h0
    have HE2 : Hid (leastE l = marksFault l) := by show _ = _; rw [HE.out, if_pos h0]
    clear h0
    go_wp2_with fail
    refine bodyPost_ret (v := .tuple #[.slice none 0 0, .int .i64 0, .int .i64 (marksFault l)]) (by simp only [results, Tryz.results9]; go_simp) rfl ?_
    exact ⟨hb1, .inl ⟨by rw [HE2.out]; exact H0.out, by rw [HE2.out]⟩⟩
  · obtain ⟨b1, b2, base, a', cap', es1, es2, hst, hsa'⟩ := hsh
    have hel := sheet_len hst
    rw [HKK.out] at hel
    have hlr := len_sheet hst.one.box
    rw [hel] at hlr
    have HTB := Lib.hid (table_any sb b1 b2 base a' cap' l es1 es2 w1 hst h0 hl hks ks HKK.out)
    rw [if_neg (by rw [h0]; decide)] at HE
    have hS := hst.box
    clear h0 hst hsa' hel
    by_cases h9 : 9 < ks.length
    · have hd : decide ((9 : Int) < (ks.length : Int)) = true := decide_eq_true (by omega)
      have HE2 : Hid (leastE l = 2) := by show _ = _; rw [HE.out, if_pos h9]
      clear HE HTB
      have hS_l := hS.lt; have hS_0 := hS.cell 0; have hS_1 := hS.cell 1; have hS_2 := hS.cell 2; simp at hS_0 hS_1 hS_2
      go_wp2_with fail
      refine bodyPost_ret (v := .tuple #[.slice none 0 0, .int .i64 0, .int .i64 2]) (by simp only [results, Tryz.results9]; go_simp) rfl ?_
      exact ⟨hb1, .inl ⟨by rw [HE2.out]; decide, by rw [HE2.out]⟩⟩
    · have hd : decide ((9 : Int) < (ks.length : Int)) = false := decide_eq_false (by omega)
      have HE2 : Hid (leastE l = 0) := by show _ = _; rw [HE.out, if_neg h9]
      clear HE
      have hS_l := hS.lt; have hS_0 := hS.cell 0; have hS_1 := hS.cell 1; have hS_2 := hS.cell 2; simp at hS_0 hS_1 hS_2
      go_wp2_with fail
      clear hS_l hS_0 hS_1 hS_2
      refine HTB.out.mono ?_
      rintro e w2 ⟨tb, rfl, hT, htb, hb2⟩
      have hb02 := below_next hb1 hb2
      obtain ⟨aK, capK, aW, capW, wb, wo, rb, ro, rc, hTK, hTR⟩ := hT.fn (rowOf_len l ks)
      have HTK := Lib.hid hTK
      have HTR := Lib.hid hTR
      have hK0 := (hTK w2 (Below.refl _ _)).2.1
      obtain ⟨NN, hNN, hN1, hN2, hpw⟩ := pow_wrapN (n := ks.length) (by omega)
      have HNN := Lib.hid hNN
      have hWL : ∀ a b, 0 ≤ losW l ks a b := fun a b => (losW_bd l ks a b).1
      have HLL := Lib.hid (leastK_len hWL ks (s := NN - 1) (by omega))
      have HLS := Lib.hid (fun v h0 hv => leastK_step hWL ks (s := v) h0 hv)
      have HNS := Lib.hid (fun v h0 hv => next_spec hWL (n := ks.length) (s := v) h0 hv)
      rw [← hNN] at HLS HNS HL HN
      obtain ⟨T, hT⟩ : ∃ T, T = NN - 1 := ⟨_, rfl⟩
      have HT := Lib.hid hT
      have HwN : Hid (IntKind.i64.wrap ((NN : Int) - 1) = (T : Int)) := by show _ = _; rw [IntWalk.i64_in _ (by omega)]; omega
      rw [← hT] at HLL HL HN
      have HN3 : Hid (T < NN) := by show _ < _; omega
      clear hT
      clear hWL
      have hd64 : decide ((64 : Int) ≤ (ks.length : Int)) = false := decide_eq_false (by omega)
      have hmk := run_make_len (P := Tryz.prog) 22 3 (.int .i64 0) 8 (by kernel_rfl) Tryz.infoInt rfl NN (by omega) (by omega)
      clear hTK hTR hT hS hb1 hb2 HTB hNN hd hlr
      obtain ⟨wA, hwA⟩ : ∃ wA, wA = w2 := ⟨_, rfl⟩
      have HWA := Lib.hid hwA
      go_upto_region 9 with (fail)
      have hX := Box.new w2 3 (Array.replicate NN (.int .i64 0))
      have hb23 : Below w2.heap.size w2 (w2.alloc (.cells (Array.replicate NN (.int .i64 0)) 3)) := (Below.refl _ _).alloc (Nat.le_refl _) _
      generalize w2.alloc (.cells (Array.replicate NN (.int .i64 0)) 3) = w3 at *
      rw [← hwA] at hX hb23 hb02
      obtain ⟨B, hB⟩ : ∃ B, B = wA.heap.size := ⟨_, rfl⟩
      rw [← hB] at hX
      rw [← hwA, ← hB]
      rw [← hwA] at HTK HTR hK0
      have hB2 : wA.heap.size ≤ B := by omega
      have HB := Lib.hid hB
      clear hB hwA hK0
      go_upto_region 10 with (fail)
      have hY := Box.new w3 3 (Array.replicate NN (.int .i64 0))
      have hb24 := hb23.alloc hb23.size (.cells (Array.replicate NN (.int .i64 0)) 3)
      have hX4 := hX.alloc (.cells (Array.replicate NN (.int .i64 0)) 3)
      have hBlt := hX.lt
      generalize w3.alloc (.cells (Array.replicate NN (.int .i64 0)) 3) = w4 at *
      obtain ⟨D, hD⟩ : ∃ D, D = w3.heap.size := ⟨_, rfl⟩
      have HD := Lib.hid hD
      rw [← hD] at hY
      rw [← hD]
      have hBD : B < D := by omega
      clear hX hb23 hD hBlt hmk
      rw [show Array.replicate NN (Value.int .i64 0) = cellsF intF (dpTo (losW l ks) ks.length 1).1 NN from by rw [dp_one]; exact (cellsF_rep intF 0 NN).symm] at hX4
      rw [show Array.replicate NN (Value.int .i64 0) = cellsF natF (dpTo (losW l ks) ks.length 1).2 NN from by rw [dp_one]; exact (cellsF_rep natF 0 NN).symm] at hY
      go_wp2_with fail
      rw [hpw]
      go_loopg [11] (NN - 1) (fun gk sv wr => ∃ s : Nat, sv = .int .i64 s ∧ 1 ≤ s ∧ s ≤ NN ∧ Hid (gk = NN - s) ∧ Box wr B 3 (cellsF intF (dpTo (losW l ks) ks.length s).1 NN) ∧ Box wr D 3 (cellsF natF (dpTo (losW l ks) ks.length s).2 NN) ∧ Below wA.heap.size wA wr)
      case atStart => exact ⟨1, rfl, by omega, by omega, rfl, hX4, hY, hb24⟩
      case round =>
        clear hX4 hY hb24
        obtain ⟨s, rfl, hs1, hsN, hgs, hBx, hDx, hb⟩ := hrel
        by_cases hlt : s < NN
        · have hi0 : (0 : Int) ≤ (s : Int) := by omega
          have hi2 : (s : Int) < (NN : Int) := by omega
          have hF1 := hBx.frozen s
          have hc1 := hBx.cellF hlt
          go_upto_region 14 with (fail)
          rw [hpw]
          have hB5 := hBx.setF (enc := intF) s (-1)
          have hD5 := hDx.setOther (p := ⟨B, s, none⟩) (by show B ≠ D; omega) (intF (-1))
          have hb5 := hb.setCell (p := ⟨B, s, none⟩) hB2 (intF (-1))
          rw [show Value.int .i64 (-1) = intF (-1) from rfl]
          generalize wr.setCell ⟨B, s, none⟩ (intF (-1)) = w5 at *
          have HW : Hid (∀ a b, 0 ≤ losW l ks a b ∧ losW l ks a b ≤ 400) := fun a b => by have := losW_bd l ks a b; omega
          obtain ⟨W, hW⟩ : ∃ W, W = losW l ks := ⟨_, rfl⟩
          have HWE := Lib.hid hW
          rw [← hW] at HW hB5 hD5
          have HNX := Lib.hid (bst_step W ks.length (s := s) (by omega))
          have HCA : Hid (∀ i, cAt W ks.length s i = (dpTo W ks.length s).1 (drp s i) + cstTo W s i ks.length) := fun i => rfl
          have HSC : Hid (∀ i, scanTo (cAt W ks.length s) s (i + 1) = if hasN s i = true then (if (scanTo (cAt W ks.length s) s i).1 < 0 ∨ cAt W ks.length s i < (scanTo (cAt W ks.length s) s i).1 then (cAt W ks.length s i, i) else scanTo (cAt W ks.length s) s i) else scanTo (cAt W ks.length s) s i) := fun i => rfl
          have HDB : Hid (∀ x, (dpTo W ks.length s).1 x ≤ 4000 * (x : Int)) := fun x => dp_high (by omega) (fun a b => (HW.out a b).2) ks.length (by omega) s x
          have HDL : Hid (∀ x, 0 ≤ (dpTo W ks.length s).1 x) := fun x => dp_low (fun a b => (HW.out a b).1) s (by rw [← HNN.out]; omega) x
          have hD6 : Box w5 D 3 (cellsF natF (upd (dpTo W ks.length s).2 s (scanTo (cAt W ks.length s) s 0).2) NN) := by
            rw [show upd (dpTo W ks.length s).2 s (scanTo (cAt W ks.length s) s 0).2 = (dpTo W ks.length s).2 from by
              funext x
              by_cases e : x = s
              · rw [e, upd_at, dp_tail W ks.length s s (Nat.le_refl _)]; rfl
              · rw [upd_ne _ _ e]]
            exact hD5
          have hB6 : Box w5 B 3 (cellsF intF (upd (dpTo W ks.length s).1 s (scanTo (cAt W ks.length s) s 0).1) NN) := hB5
          clear hB5 hD5 hF1 hc1 hBx hDx hb hW
          generalize (dpTo W ks.length s).1 = F1 at *
          generalize (dpTo W ks.length s).2 = F2 at *
          generalize cAt W ks.length s = cc at *
          go_wp2_with fail
          go_loopg [55] ks.length (fun gk iv wr => ∃ i : Nat, iv = .int .i64 i ∧ i ≤ ks.length ∧ Hid (gk = ks.length - i) ∧ Box wr B 3 (cellsF intF (upd F1 s (scanTo cc s i).1) NN) ∧ Box wr D 3 (cellsF natF (upd F2 s (scanTo cc s i).2) NN) ∧ Below wA.heap.size wA wr)
          case atStart => exact ⟨0, rfl, by omega, rfl, hB6, hD6, hb5⟩
          case round =>
            clear hB6 hD6 hb5
            obtain ⟨i, rfl, hi, hgi, hBx, hDx, hb⟩ := hrel
            by_cases hil : i < ks.length
            · have hq := bit_atN s i
              have hi64 : decide ((64 : Int) ≤ (i : Int)) = false := decide_eq_false (by omega)
              have hj0 : (0 : Int) ≤ (i : Int) := by omega
              have hj2 : (i : Int) < (ks.length : Int) := by omega
              have HSi := Lib.hid (HSC.out i)
              have HCi := Lib.hid (HCA.out i)
              generalize scanTo cc s i = S0 at *
              cases hbt : hasN s i
              · rw [hbt, if_neg (by decide)] at hq HSi
                go_wp2_with fail
                go_roundg (ks.length - (i + 1))
                case measure => have := hgi.out; omega
                case rel => exact ⟨i + 1, by go_num, by omega, rfl, by rw [HSi.out]; exact hBx, by rw [HSi.out]; exact hDx, hb⟩
              · rw [hbt, if_pos rfl] at hq HSi
                have hAn := andNotN s i (by omega) (by omega) hbt
                have hrs := drp_lt s i hbt
                have HCS := Lib.hid (cst_step W hbt)
                have hF1b := HDB.out (drp s i)
                have hF1l := HDL.out (drp s i)
                have HCB : Hid (∀ k, k ≤ ks.length → 0 ≤ cstTo W s i k ∧ cstTo W s i k ≤ 4000) := fun k hk => by
                  have h1 := cst_high (M := 400) (by omega) (fun a b => (HW.out a b).2) s i k
                  have h2 := cst_low (fun a b => (HW.out a b).1) s i k
                  omega
                generalize drp s i = r at *
                have hcr := hBx.cellF (i := r) (by omega)
                rw [upd_ne _ _ (by omega)] at hcr
                have hr0 : (0 : Int) ≤ (r : Int) := by omega
                have hr2 : (r : Int) < (NN : Int) := by omega
                obtain ⟨c0, hc0⟩ : ∃ c0, c0 = F1 r := ⟨_, rfl⟩
                have Hc0 := Lib.hid hc0
                have hcr2 : wr.cell? ⟨B, r, none⟩ = some (.int .i64 c0) := by rw [hc0]; exact hcr
                rw [← hc0] at hF1b hF1l
                clear hc0 hcr
                go_wp2_with fail
                go_loopg [72, 14] ks.length (fun gk kv cv wq => ∃ k : Nat, kv = .int .i64 k ∧ cv = .int .i64 (c0 + cstTo W s i k) ∧ k ≤ ks.length ∧ Hid (gk = ks.length - k) ∧ wq = wr)
                case atStart => exact ⟨0, rfl, by show _ = Value.int .i64 (c0 + 0); rw [Int.add_zero], by omega, rfl, rfl⟩
                case round =>
                  obtain ⟨k, rfl, rfl, hk, hgk, rfl⟩ := hrel
                  by_cases hkl : k < ks.length
                  · have hq2 := bit_atN r k
                    have hk64 : decide ((64 : Int) ≤ (k : Int)) = false := decide_eq_false (by omega)
                    have hk0 : (0 : Int) ≤ (k : Int) := by omega
                    have hk2 : (k : Int) < (ks.length : Int) := by omega
                    have HC1 := Lib.hid (HCS.out k)
                    have hcb := HCB.out k hk
                    have hWb := HW.out k i
                    obtain ⟨haW, hRk⟩ := HTR.out k hkl
                    obtain ⟨t4, t5⟩ := hRk _ hb
                    have t6 := t5 i hil
                    have t7 := (HTK.out _ hb).2.2
                    rw [haW] at t7
                    have ht6 : (rowOf l ks k).getD i 0 = W k i := by rw [HWE.out]; rfl
                    rw [ht6] at t6
                    clear haW hRk t5 ht6
                    generalize W k i = x at *
                    generalize cstTo W s i k = q0 at *
                    cases hbk : hasN r k
                    · rw [hbk, if_neg (by decide)] at hq2 HC1
                      go_wp2_with fail
                      go_roundg (ks.length - (k + 1))
                      case measure => have := hgk.out; omega
                      case rel => exact ⟨k + 1, by go_num, by rw [HC1.out, Int.add_zero], by omega, rfl, rfl⟩
                    · rw [hbk, if_pos rfl] at hq2 HC1
                      have hw1 : IntKind.i64.wrap ((c0 + q0) + x) = c0 + q0 + x := IntWalk.i64_in _ (by omega)
                      go_wp2_with fail
                      go_roundg (ks.length - (k + 1))
                      case measure => have := hgk.out; omega
                      case rel => exact ⟨k + 1, by go_num, by rw [HC1.out, Int.add_assoc], by omega, rfl, rfl⟩
                  · obtain rfl : k = ks.length := by omega
                    rw [← Hc0.out] at HCi
                    rw [← HCi.out]
                    generalize cc i = cv at *
                    have hcs := hBx.cellF hlt
                    rw [upd_at] at hcs
                    have hfs := hBx.frozen s
                    have hfd := hDx.frozen s
                    have hcd := hDx.cellF hlt
                    have hBu := (hBx.setF (enc := intF) s cv).setOther (p := ⟨D, s, none⟩) (by show D ≠ B; omega) (natF i)
                    have hDu := (hDx.setOther (p := ⟨B, s, none⟩) (by show B ≠ D; omega) (intF cv)).setF (enc := natF) s i
                    have hfd2 := (hDx.setOther (p := ⟨B, s, none⟩) (by show B ≠ D; omega) (intF cv)).frozen s
                    have hcd2 := (hDx.setOther (p := ⟨B, s, none⟩) (by show B ≠ D; omega) (intF cv)).cellF hlt
                    rw [show upd (upd F1 s S0.1) s cv = upd F1 s cv from by funext x; unfold upd; split <;> rfl] at hBu
                    rw [show upd (upd F2 s S0.2) s i = upd F2 s i from by funext x; unfold upd; split <;> rfl] at hDu
                    have HBu := Lib.hid hBu
                    have HDu := Lib.hid hDu
                    have Hbu := Lib.hid ((hb.setCell (p := ⟨B, s, none⟩) hB2 (intF cv)).setCell (p := ⟨D, s, none⟩) (by show wA.heap.size ≤ D; omega) (natF i))
                    have HBx := Lib.hid hBx
                    have HDx := Lib.hid hDx
                    have HBb := Lib.hid hb
                    clear hBu hDu hBx hDx hb hAn hq hi64 hcr2 hF1b hF1l
                    rcases S0 with ⟨s0, n0⟩
                    simp only at HSi hcs
                    simp only [intF, natF] at hcs hcd2 hcd
                    simp only [intF] at hfd2
                    by_cases h1 : s0 < 0
                    · have hd1 : decide (s0 < 0) = true := decide_eq_true h1
                      rw [if_pos (.inl h1)] at HSi
                      go_wp2_with fail
                      go_roundg (ks.length - (i + 1))
                      case measure => have := hgi.out; omega
                      case rel => exact ⟨i + 1, by go_num, by omega, rfl, by rw [HSi.out]; exact HBu.out, by rw [HSi.out]; exact HDu.out, Hbu.out⟩
                    · have hd1 : decide (s0 < 0) = false := decide_eq_false h1
                      by_cases h2 : cv < s0
                      · have hd2 : decide (cv < s0) = true := decide_eq_true h2
                        rw [if_pos (.inr h2)] at HSi
                        go_wp2_with fail
                        go_roundg (ks.length - (i + 1))
                        case measure => have := hgi.out; omega
                        case rel => exact ⟨i + 1, by go_num, by omega, rfl, by rw [HSi.out]; exact HBu.out, by rw [HSi.out]; exact HDu.out, Hbu.out⟩
                      · have hd2 : decide (cv < s0) = false := decide_eq_false h2
                        rw [if_neg (fun h => h.elim h1 h2)] at HSi
                        go_wp2_with fail
                        go_roundg (ks.length - (i + 1))
                        case measure => have := hgi.out; omega
                        case rel => exact ⟨i + 1, by go_num, by omega, rfl, by rw [HSi.out]; exact HBx.out, by rw [HSi.out]; exact HDx.out, HBb.out⟩
            · obtain rfl : i = ks.length := by omega
              rw [HNX.out.1] at hBx
              rw [HNX.out.2] at hDx
              have hw1 : IntKind.i64.wrap ((s : Int) + 1) = (s : Int) + 1 := IntWalk.i64_in _ (by omega)
              rw [HWE.out] at hBx hDx
              go_wp2_with fail
              go_roundg (NN - (s + 1))
              case measure => have := hgs.out; omega
              case rel => exact ⟨s + 1, by go_num, by omega, by omega, rfl, hBx, hDx, hb⟩
        · obtain rfl : s = NN := by omega
          obtain ⟨wz, hwz⟩ : ∃ wz, wz = wr := ⟨_, rfl⟩
          have Hwz := Lib.hid hwz
          have HBX : Hid (∀ V, Below wz.heap.size wz V → Box V B 3 (cellsF intF (dpTo (losW l ks) ks.length s).1 s) ∧ Box V D 3 (cellsF natF (dpTo (losW l ks) ks.length s).2 s) ∧ Below wA.heap.size wA V) := fun V h => by rw [hwz] at h; exact ⟨hBx.below h, hDx.below h, below_next hb h⟩
          have hwN := HwN.out
          clear hlt hsN hs1
          clear hBx hDx hb hwz
          obtain ⟨R, hR⟩ : ∃ R, R = leastK (losW l ks) ks T := ⟨_, rfl⟩
          have HR := Lib.hid hR
          rw [← hR] at HLL HL
          clear hR
          go_wp2_with fail
          rw [hpw]
          go_loopg [17, 16] T (fun gk sv ov wx => ∃ (v : Nat) (lv : Value) (acc : List ByteArray), sv = .int .i64 v ∧ lv = ov ∧ v < s ∧ Hid (gk = v) ∧ Own wz.heap.size 9 wx lv acc ∧ Hid (acc ++ leastK (losW l ks) ks v = R) ∧ Below wz.heap.size wz wx)
          case atStart => exact ⟨T, _, [], rfl, rfl, HN3.out, rfl, Own.nil _ _ _, HR.out.symm, by rw [Hwz.out]; exact Below.refl _ _⟩
          case round =>
            obtain ⟨v, lv, acc, rfl, rfl, hvs, hgv, hown, hacc, hbz⟩ := hrel
            have HPW := Lib.hid hpw
            clear hpw
            obtain ⟨hBx, hDx, hb⟩ := HBX.out _ hbz
            by_cases hv0 : v = 0
            · subst hv0
              have hd : decide ((0 : Int) < ((0 : Nat) : Int)) = false := rfl
              have ha2 := hacc.out
              rw [show leastK (losW l ks) ks 0 = [] from rfl, List.append_nil] at ha2
              subst ha2
              obtain ⟨la, lc, rfl, hls, -, -⟩ := hown.form
              have hce := hBx.cellF (i := T) HN3.out
              have hi0 : (0 : Int) ≤ (T : Int) := by omega
              have hi2 : (T : Int) < (s : Int) := by have := HN3.out; omega
              have hww := below_next hb02 hb
              simp only [intF] at hce
              rw [← HN.out] at hce
              clear HBX HLS HNS hBx hDx hown hacc hb hbz HTK HTR HLL HB HD HWA Hwz hgv
              have hpw := HPW.out
              go_upto_region 34 with (fail)
              go_quiet (fail)
              go_wp2_with fail
              refine bodyPost_ret (v := .tuple #[.slice la acc.length lc, .int .i64 (leastN l), .int .i64 0]) (by simp only [results, Tryz.results9]; go_simp) rfl ?_
              exact ⟨below_drewN hww _, .inr ⟨HE2.out, la, lc, by rw [HL.out], by rw [HL.out]; exact hls.drewN _⟩⟩
            · have hd : decide ((0 : Int) < (v : Int)) = true := decide_eq_true (by omega)
              obtain ⟨hj, hjb, -, -⟩ := HNS.out v hv0 hvs
              have HLv := Lib.hid (HLS.out v hv0 hvs)
              have hcd := hDx.cellF hvs
              simp only [natF] at hcd
              have hdl := drp_lt v _ hjb
              have hAn := andNotN v _ (by omega) (by omega) hjb
              have HD9 : Hid (∀ V, Below wz.heap.size wz V → V.cell? ⟨D, v, none⟩ = some (.int .i64 (((dpTo (losW l ks) ks.length s).2 v : Nat) : Int))) := fun V h => (HBX.out V h).2.1.cellF hvs
              generalize (dpTo (losW l ks) ks.length s).2 v = nx at *
              obtain ⟨kb, ko, haK, e0⟩ := ((HTK.out _ hb).1).str hj
              have HE0 : Hid (∀ V, Below wz.heap.size wz V → V.cell? ⟨kb, ko + nx, none⟩ = some (.string ks[nx])) := fun V h => by
                obtain ⟨kb', ko', ha', e'⟩ := ((HTK.out _ (HBX.out V h).2.2).1).str hj
                rw [haK] at ha'; cases ha'; exact e'
              have t7c := (HTK.out _ hb).2.1
              have HT7 : Hid (∀ V, Below wz.heap.size wz V → V.cell? ⟨tb, 0, none⟩ = some (.slice aK ks.length capK)) := fun V h => (HTK.out _ (HBX.out V h).2.2).2.1
              rw [haK] at t7c HT7
              rw [show ks.getD nx ⟨#[]⟩ = ks[nx] from by rw [List.getD_eq_getElem?_getD, List.getElem?_eq_getElem hj]; rfl] at HLv
              generalize ks[nx] = p at *
              have hacc2 : Hid ((acc ++ [p]) ++ leastK (losW l ks) ks (drp v nx) = R) := by
                show _ = _
                rw [List.append_assoc, List.singleton_append, ← HLv.out]; exact hacc.out
              have hal : acc.length ≤ T := by
                have h1 := congrArg List.length hacc.out
                rw [List.length_append] at h1
                have := HLL.out
                omega
              have hT16 : T ≤ 16384 := by have := HN3.out; omega
              have hrl : drp v nx < s := by omega
              generalize drp v nx = r at *
              have hv00 : (0 : Int) ≤ (v : Int) := by omega
              have hv2 : (v : Int) < (s : Int) := by omega
              have hx0 : (0 : Int) ≤ (nx : Int) := by omega
              have hx2 : (nx : Int) < (ks.length : Int) := by omega
              have hx64 : decide ((64 : Int) ≤ (nx : Int)) = false := decide_eq_false (by omega)
              have Hx64 := Lib.hid hx64
              have HAn := Lib.hid hAn
              have Hdl := Lib.hid hdl
              clear HLv hacc HLL HTK HTR HLS HNS hBx hDx hjb hAn hx64 hdl haK
              go_upto_region 33 with (fail)
              simp only [show decide (0 < v) = true from decide_eq_true (by omega)]
              clear hd
              refine wp_region_held_drew (S := (fun wq => wq.cell? ⟨tb, 0, none⟩ = some (.slice (some ⟨kb, ko, none⟩) ks.length capK) ∧ wq.cell? ⟨D, v, none⟩ = some (.int .i64 (nx : Nat)) ∧ wq.cell? ⟨kb, ko + nx, none⟩ = some (.string p))) (by kernel_rfl) ?hS (fun hHeld => ?_)
              case hS => exact ⟨t7c, hcd, e0⟩
              refine rt 0 (some 127) ?_
              refine rt 1 (some 128) ?_
              refine rt 2 (some 129) ?_
              refine rt 3 (some 130) ?_
              refine rt 4 (some 131) ?_
              refine rt 5 (some 132) ?_
              refine rt 6 (some 133) ?_
              refine rt 7 (some 134) ?_
              refine rt 8 (some 135) ?_
              refine rt 9 (some 136) ?_
              refine rt 10 (some 137) ?_
              refine rcall (i := 11) (d := (some 138)) (by kernel_rfl) rfl (by kernel_rfl) (fun K hK => ?_)
              go_simp
              skip
              refine hK.out _ _ ?hS (fun hHeld => ?_)
              case hS => exact (have hA := (Below.refl wr.heap.size wr).drew.alloc (by show wr.heap.size ≤ _; exact Nat.le_refl _) (.cells #[.string p] 9); ⟨cell_later hA t7c, cell_later hA hcd, cell_later hA e0⟩)
              clear hK K
              simp only [Act.put, lsetA, lsetZ, lsetS]
              refine rcall (i := 12) (d := (some 139)) (by kernel_rfl) rfl (by kernel_rfl) (fun K hK => ?_)
              refine step_append_lie (α := ByteArray) (by rfl) _ _ 29 (by rfl) 9 16 (.string ⟨#[]⟩) Tryz.underlying29 Tryz.infoString (by rfl) lv acc (by rfl) (hown.alloc (.cells #[.string p] 9)).drew p wr.heap.size (by rfl) (Box.drew (Box.new wr 9 #[.string p])) (by omega) (by omega) (by have := hbz.size; simp; omega) ?_; intro g9 cap9 w9 hown9 hg9 hat9; have hk9 : Kp (fun x => lv.ownBlock = some x) wr w9 := (((Kp.refl (fun x => lv.ownBlock = some x) wr).alloc (.cells #[.string p] 9)).drew).grown hg9 (fun x hx => .inl hx); have hb9 := belowKp hbz hk9 (fun x hx => (hown.lt x hx).1) hbz.size
              refine hK.out _ _ ?hS (fun hHeld => ?_)
              case hS => exact ⟨HT7.out _ hb9, HD9.out _ hb9, HE0.out _ hb9⟩
              clear hK K
              simp only [Act.put, lsetA, lsetZ, lsetS]
              refine rt 13 (some 16) ?_
              refine wpAnyH_done (by kernel_rfl) ?_ _
              have hcd9 := HD9.out _ hb9
              clear hHeld hk9 hg9 hat9 hown hbz hb t7c hcd e0 HT7 HE0
              have hx64 := Hx64.out
              have hAn := HAn.out
              go_wp2_with fail
              go_roundg r
              case measure => have := Hdl.out; have := hgv.out; omega
              case rel => exact ⟨r, _, _, rfl, rfl, by omega, rfl, hown9, hacc2.out, hb9⟩
end Go.Proofs.YtcjcdbhobehlpaaGreatDoor
