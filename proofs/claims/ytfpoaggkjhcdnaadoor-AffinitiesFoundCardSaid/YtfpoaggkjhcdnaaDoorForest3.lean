/- CheckForest of the program gives the same error. -/
import Derived.Test.YtfpoaggkjhcdnaaDoorForest2
namespace Go.Proofs.YtfpoaggkjhcdnaaDoor
open Go.RowKit
set_option linter.unusedVariables false

/-- A plain value is returned; the world may have grown. -/
theorem isKey_no (s : ByteArray) (w : World) (hs : s.size ≤ 1000000) (h : keyB s = false) : Calls Tryd.prog 38 #[.string s] w (fun e w' => e = .returned (.bool false) ∧ w = w') := by
  have := isKey_any s w (by omega); rwa [h] at this
theorem isKey_yes (s : ByteArray) (w : World) (hs : s.size ≤ 1000000) (h : keyB s = true) : Calls Tryd.prog 38 #[.string s] w (fun e w' => e = .returned (.bool true) ∧ w = w') := by
  have := isKey_any s w (by omega); rwa [h] at this

theorem firstErr_const {f : Nat → Int} {n : Nat} (c : Int) (hc : c ≠ 0) (hf : ∀ j, f j = 0 ∨ f j = c) (h : ∃ i, i < n ∧ f i = c) : firstErr f n = c := by
  by_cases hz : firstErr f n = 0
  · obtain ⟨i, hi, he⟩ := h
    rw [firstErr_zeros hz i hi] at he
    exact absurd he.symm hc
  · have : ∀ m, firstErr f m = 0 ∨ firstErr f m = c := fun m => by
      induction m with
      | zero => exact .inl rfl
      | succ m ih =>
        rw [firstErr]
        rcases ih with h1 | h1
        · simp [h1]; exact hf m
        · right; simp [h1, hc]
    exact (this n).resolve_left hz

theorem f4_or (l : List Topic) (i : Nat) : f4 l i = 0 ∨ f4 l i = 2 := by
  unfold f4; split
  · exact .inl rfl
  · split
    · exact .inr rfl
    · exact .inl rfl

set_option maxRecDepth 100000 in
set_option maxHeartbeats 8000000 in
theorem checkForest_any (l : List Topic) (a : Option Addr) (cap : Nat) (w : World) (hl : SA w a l) (hlen : l.length ≤ 1000000) (hsm : SmallT l) :
    Calls Tryd.prog 8 #[.slice a l.length cap] w (Gives (.int .i64 (forestFault l)) w) := by
  by_cases h100 : 100 < l.length
  · have hv : forestFault l = 2 := by simp [forestFault, h100]
    rw [hv]
    go_enter Tryd.func8, Tryd.ntmps8
    go_wp2_with fail
    go_ret
    exact ⟨rfl, Below.refl _ _⟩
  · have hv : forestFault l = firstOf [firstErr (f1 l) l.length, firstErr (f2 l) l.length, firstErr (f3 l) l.length, firstErr (f4 l) l.length] := by simp [forestFault, h100]
    have Hv := Lib.hid hv
    clear hv
    have hmm := @run_makeMap Tryd.prog
    go_enter Tryd.func8, Tryd.ntmps8
    go_wp2_with fail
    go_loopg [21] l.length (fun gk i wr => ∃ k : Nat, i = .int .i64 k ∧ k ≤ l.length ∧ Hid (gk = l.length - k) ∧ Hid (∀ j, j < k → f1 l j = 0) ∧ MBox wr w.heap.size (upList (l.take k)) ∧ Below w.heap.size w wr)
    case atStart => exact ⟨0, rfl, by omega, rfl, fun j hj => by omega, MBox.new w, by (repeat' (first | exact Below.refl _ _ | assumption | refine Below.setCell ?_ ?_ _ | refine below_drewN ?_ _ | refine Below.drew ?_ | refine Below.alloc ?_ ?_ _ | (with_reducible refine Below.trans ?_ (Below.mono hb ?_)) | (with_reducible refine Below.trans ?_ (Below.mono hb1 ?_)) | (with_reducible refine Below.trans ?_ (Below.mono hb2 ?_)) | (with_reducible refine Below.trans ?_ (Below.mono hb3 ?_)) | (with_reducible refine Below.trans ?_ (Below.mono hb4 ?_)) | (with_reducible refine Below.trans ?_ (Below.mono hb5 ?_)) | (with_reducible refine Below.trans ?_ (Below.mono hb6 ?_)) | omega | (simp; done) | (simp; omega)))⟩
    case round =>
      clear hmm
      obtain ⟨k, rfl, hk, hgk, hf, hM, hb⟩ := hrel
      by_cases hlt : k < l.length
      · obtain ⟨b, off, ha, c0, c1⟩ := (hl.below hb).topic hlt
        obtain ⟨hs1, hs2⟩ := hsm l[k] (List.getElem_mem hlt)
        have hf1 : f1 l k = if nameBad l[k] then 5 else if decide (0 < k) && leB l[k].1 (l.getD (k - 1) (⟨#[]⟩, ⟨#[]⟩)).1 then 7 else 0 := by
          unfold f1; rw [List.getElem?_eq_getElem hlt]
        have Hf1 := Lib.hid hf1
        have hMU : f1 l k = 0 → mput (upList (l.take k)) l[k].1 (.string l[k].2) = upList (l.take (k + 1)) := fun h0 => by
          rw [mput_new, List.take_succ_eq_append_getElem hlt]
          · unfold upList; rw [List.map_append]; rfl
          · intro p hp
            obtain ⟨t, ht, rfl⟩ := List.mem_map.1 hp
            exact rises_take (zeros_succ hf.out h0) hlt t ht
        have HMU := Lib.hid hMU
        clear hf1 hMU
        rw [ha]
        generalize hx : l[k] = x at *
        obtain ⟨x1, x2⟩ := x
        clear hx
        simp only at c0 c1 hs1 hs2
        have hz := hb.size
        have hbr : Below w.heap.size w (wr.alloc (.cells #[.string x1, .string x2] 65)) := by (repeat' (first | exact Below.refl _ _ | assumption | refine Below.setCell ?_ ?_ _ | refine below_drewN ?_ _ | refine Below.drew ?_ | refine Below.alloc ?_ ?_ _ | (with_reducible refine Below.trans ?_ (Below.mono hb ?_)) | (with_reducible refine Below.trans ?_ (Below.mono hb1 ?_)) | (with_reducible refine Below.trans ?_ (Below.mono hb2 ?_)) | (with_reducible refine Below.trans ?_ (Below.mono hb3 ?_)) | (with_reducible refine Below.trans ?_ (Below.mono hb4 ?_)) | (with_reducible refine Below.trans ?_ (Below.mono hb5 ?_)) | (with_reducible refine Below.trans ?_ (Below.mono hb6 ?_)) | omega | (simp; done) | (simp; omega)))
        go_upto_region 7 with (fail)
        go_cut [40] (fun s wx => s = .bool (nameBad (x1, x2)) ∧ wx = wr.alloc (.cells #[.string x1, .string x2] 65))
        case first =>
          cases h1 : keyB x1
          · have Hnb := Lib.hid (show nameBad (x1, x2) = true by simp [nameBad, h1])
            have H1 := Lib.hid h1
            clear h1
            go_wp2_with fail
            refine (isKey_no x1 _ hs1 H1.out).mono ?_
            rintro e w1 ⟨rfl, rfl⟩
            go_wp2_with fail
            go_meet
            exact ⟨by rw [Hnb.out], rfl⟩
          · have H1 := Lib.hid h1
            by_cases he : x2 = ⟨#[]⟩
            · have Hnb := Lib.hid (show nameBad (x1, x2) = false by simp [nameBad, h1, toList_empty.2 he])
              have hq1 : x2.toList = [] := List.isEmpty_iff.1 (toList_empty.2 he)
              clear h1 he
              go_wp2_with fail
              refine (isKey_yes x1 _ hs1 H1.out).mono ?_
              rintro e w1 ⟨rfl, rfl⟩
              go_wp2_with fail
              go_meet
              exact ⟨by rw [Hnb.out], rfl⟩
            · have hq1 : x2.toList ≠ [] := fun h => he (toList_empty.1 (List.isEmpty_iff.2 h))
              have hq2 : x2.toList.isEmpty = false := by simpa using hq1
              have Hnb := Lib.hid (show nameBad (x1, x2) = !keyB x2 by simp [nameBad, h1, hq2])
              clear h1 he
              go_wp2_with fail
              refine (isKey_yes x1 _ hs1 H1.out).mono ?_
              rintro e w1 ⟨rfl, rfl⟩
              go_wp2_with fail
              refine (isKey_any x2 _ (by omega)).mono ?_
              rintro e w1 ⟨rfl, rfl⟩
              go_wp2_with fail
              go_meet
              exact ⟨by rw [Hnb.out], rfl⟩
        case rest =>
          obtain ⟨hs, hw⟩ := hcut
          rw [hs, hw]
          clear hw hs
          cases hnb : nameBad (x1, x2)
          · by_cases hk0 : k = 0
            · have hz1 : f1 l k = 0 := by rw [Hf1.out, hnb]; simp [hk0]
              have Hz1 := Lib.hid hz1
              have HU := Lib.hid (HMU.out hz1)
              have hd : decide (0 < k) = false := by simp [hk0]
              have hd' : decide ((0 : Int) < (k : Int)) = false := by simp [hk0]
              clear hz1 hk0 hnb
              go_wp2_with fail
              go_quiet (fail)
              go_wp2_with (at_mapUpdate; refine wpList_mapUpdate_box rfl _ _ _ 71 rfl 9 9 Tryd.underlying71 Tryd.underlying9 w.heap.size _ rfl ((hM.alloc _).drewN _) x1 rfl (.string x2) rfl ?_; intro w2 hM2 hg2 hs2)
              rw [← ha]
              go_roundg (l.length - (k + 1))
              case measure => have := hgk.out; omega
              case rel =>
                rw [HU.out] at hM2
                exact ⟨k + 1, by go_num, by omega, rfl, zeros_succ hf.out Hz1.out, hM2, Below.grown (below_drewN hbr _) hg2 (by simp; omega) (by rintro j hj; cases hj; exact Nat.le_refl _)⟩
            · obtain ⟨p, hp⟩ : ∃ p, k = p + 1 := ⟨k - 1, by omega⟩
              have hpl : p < l.length := by omega
              obtain ⟨b', off', ha', d0, d1⟩ := ((hl.below hb).alloc (.cells #[.string x1, .string x2] 65)).topic hpl
              rw [ha] at ha'
              cases ha'
              have hpg : (l.getD (k - 1) (⟨#[]⟩, ⟨#[]⟩)) = l[p] := by rw [hp, Nat.add_sub_cancel, List.getD_eq_getElem?_getD, List.getElem?_eq_getElem hpl]; rfl
              have hz1 : f1 l k = if leB x1 l[p].1 then 7 else 0 := by rw [Hf1.out, hnb, hpg]; simp [hp]
              have Hz1 := Lib.hid hz1
              have hwp : IntKind.i64.wrap ((k : Int) - 1) = (p : Int) := by rw [hp, IntWalk.i64_in _ (by omega)]; omega
              have hk1 : 0 < k := by omega
              have hk2 : (0 : Int) < (k : Int) := by omega
              have hp1 : (0 : Int) ≤ (p : Int) := by omega
              have hp2 : (p : Int) < (l.length : Int) := by omega
              clear hz1 hpg hk0 d1 hnb
              have Hp := Lib.hid hp
              clear hp
              generalize hy : l[p].1 = y at *
              clear hy
              cases hle : leB x1 y
              · have hq : (Op.bytesLess x1.toList y.toList || x1.toList == y.toList) = false := hle
                have hz0 : f1 l k = 0 := by rw [Hz1.out, hle]; rfl
                have Hz0 := Lib.hid hz0
                have HU := Lib.hid (HMU.out hz0)
                clear hz0 hle
                go_wp2_with fail
                go_quiet (fail)
                go_wp2_with (at_mapUpdate; refine wpList_mapUpdate_box rfl _ _ _ 71 rfl 9 9 Tryd.underlying71 Tryd.underlying9 w.heap.size _ rfl ((hM.alloc _).drewN _) x1 rfl (.string x2) rfl ?_; intro w2 hM2 hg2 hs2)
                rw [← ha]
                go_roundg (l.length - (k + 1))
                case measure => have := hgk.out; omega
                case rel =>
                  rw [HU.out] at hM2
                  exact ⟨k + 1, by go_num, by omega, rfl, zeros_succ hf.out Hz0.out, hM2, Below.grown (below_drewN hbr _) hg2 (by simp; omega) (by rintro j hj; cases hj; exact Nat.le_refl _)⟩
              · have hq : (Op.bytesLess x1.toList y.toList || x1.toList == y.toList) = true := hle
                have he : firstErr (f1 l) l.length = 7 := by
                  have h7 : f1 l k = 7 := by rw [Hz1.out, hle]; rfl
                  rw [firstErr_at hlt hf (by rw [h7]; decide), h7]
                have hfin : forestFault l = 7 := by rw [Hv.out, he]; rfl
                have Hfin := Lib.hid hfin
                clear he hfin hle
                go_wp2_with fail
                go_quiet (fail)
                go_wp2_with fail
                go_ret
                exact ⟨by rw [Hfin.out]; rfl, below_drewN hbr _⟩
          · have he : firstErr (f1 l) l.length = 5 := by
              have h5 : f1 l k = 5 := by rw [Hf1.out, hnb]; rfl
              rw [firstErr_at hlt hf (by rw [h5]; decide), h5]
            have hfin : forestFault l = 5 := by rw [Hv.out, he]; rfl
            have Hfin := Lib.hid hfin
            clear he hfin hnb
            go_wp2_with fail
            go_ret
            exact ⟨by rw [Hfin.out]; rfl, hbr⟩
      · obtain rfl : k = l.length := by omega
        rw [List.take_length] at hM
        have hZ1 := hf.out
        have hE1 : firstErr (f1 l) l.length = 0 := firstErr_zero hZ1
        have hv2 : forestFault l = firstOf [firstErr (f2 l) l.length, firstErr (f3 l) l.length, firstErr (f4 l) l.length] := by rw [Hv.out, hE1]; rfl
        have Hv2 := Lib.hid hv2
        have HZ1 := Lib.hid hZ1
        clear hv2 hE1 Hv hf hZ1 hgk hlt hk
        obtain ⟨wo, rfl⟩ : ∃ wo : World, wo = wr := ⟨_, rfl⟩
        go_wp2_with fail
        go_loopg [62] l.length (fun gk i wr => ∃ k : Nat, i = .int .i64 k ∧ k ≤ l.length ∧ Hid (gk = l.length - k) ∧ Hid (∀ j, j < k → f2 l j = 0) ∧ MBox wr w.heap.size (upList l) ∧ Below w.heap.size w wr)
        case atStart => exact ⟨0, rfl, by omega, rfl, fun j hj => by omega, hM, hb⟩
        case round =>
          clear hb hM
          obtain ⟨k2, rfl, hk2, hgk, hf, hM, hb⟩ := hrel
          by_cases hlt2 : k2 < l.length
          · obtain ⟨b, off, ha, c0, c1⟩ := (hl.below hb).topic hlt2
            have hf2 : f2 l k2 = if !l[k2].2.toList.isEmpty && (ForestPure.topicOf l l[k2].2).isNone then 8 else 0 := by
              unfold f2; rw [List.getElem?_eq_getElem hlt2]
            have Hf2 := Lib.hid hf2
            clear hf2
            rw [ha]
            generalize l[k2].1 = x1 at *
            generalize l[k2].2 = x2 at *
            have hz := hb.size
            have hlk : ∀ o, (Instr.lookup 71 (.map (some w.heap.size)) (.string x2) true).run Tryd.prog (wr.alloc o) = .ok (.tuple #[.string (ForestPure.upOf e0 l x2), .bool (ForestPure.topicOf l x2).isSome]) (wr.alloc o) := fun o => by
              rw [← looked_up2]; exact MBox.look (hM.alloc o) Tryd.underlying71 Tryd.underlying9 _ Tryd.zeroString x2 true
            by_cases he : x2 = ⟨#[]⟩
            · have hq0 := toList_empty.2 he
              have hq1 : x2.toList = [] := List.isEmpty_iff.1 hq0
              have hz0 : f2 l k2 = 0 := by rw [Hf2.out, hq0]; rfl
              have Hz0 := Lib.hid hz0
              clear hz0 he
              go_wp2_with fail
              rw [← ha]
              go_roundg (l.length - (k2 + 1))
              case measure => have := hgk.out; omega
              case rel => exact ⟨k2 + 1, by go_num, by omega, rfl, zeros_succ hf.out Hz0.out, hM.alloc _, by (repeat' (first | exact Below.refl _ _ | assumption | refine Below.setCell ?_ ?_ _ | refine below_drewN ?_ _ | refine Below.drew ?_ | refine Below.alloc ?_ ?_ _ | (with_reducible refine Below.trans ?_ (Below.mono hb ?_)) | (with_reducible refine Below.trans ?_ (Below.mono hb1 ?_)) | (with_reducible refine Below.trans ?_ (Below.mono hb2 ?_)) | (with_reducible refine Below.trans ?_ (Below.mono hb3 ?_)) | (with_reducible refine Below.trans ?_ (Below.mono hb4 ?_)) | (with_reducible refine Below.trans ?_ (Below.mono hb5 ?_)) | (with_reducible refine Below.trans ?_ (Below.mono hb6 ?_)) | omega | (simp; done) | (simp; omega)))⟩
            · have hq1 : x2.toList ≠ [] := fun h => he (toList_empty.1 (List.isEmpty_iff.2 h))
              have hq2 : x2.toList.isEmpty = false := by simpa using hq1
              cases ho : ForestPure.topicOf l x2 with
              | none =>
                rw [ho] at hlk
                have hz8 : f2 l k2 = 8 := by rw [Hf2.out, hq2, ho]; rfl
                have he8 : firstErr (f2 l) l.length = 8 := by rw [firstErr_at hlt2 hf (by rw [hz8]; decide), hz8]
                have hfin : forestFault l = 8 := by rw [Hv2.out, he8]; rfl
                have Hfin := Lib.hid hfin
                clear hz8 he8 hfin he ho
                go_wp2_with fail
                go_ret
                exact ⟨by rw [Hfin.out]; rfl, by (repeat' (first | exact Below.refl _ _ | assumption | refine Below.setCell ?_ ?_ _ | refine below_drewN ?_ _ | refine Below.drew ?_ | refine Below.alloc ?_ ?_ _ | (with_reducible refine Below.trans ?_ (Below.mono hb ?_)) | (with_reducible refine Below.trans ?_ (Below.mono hb1 ?_)) | (with_reducible refine Below.trans ?_ (Below.mono hb2 ?_)) | (with_reducible refine Below.trans ?_ (Below.mono hb3 ?_)) | (with_reducible refine Below.trans ?_ (Below.mono hb4 ?_)) | (with_reducible refine Below.trans ?_ (Below.mono hb5 ?_)) | (with_reducible refine Below.trans ?_ (Below.mono hb6 ?_)) | omega | (simp; done) | (simp; omega)))⟩
              | some t =>
                rw [ho] at hlk
                have hz0 : f2 l k2 = 0 := by rw [Hf2.out, ho]; simp
                have Hz0 := Lib.hid hz0
                clear hz0 he ho
                go_wp2_with fail
                rw [← ha]
                go_roundg (l.length - (k2 + 1))
                case measure => have := hgk.out; omega
                case rel => exact ⟨k2 + 1, by go_num, by omega, rfl, zeros_succ hf.out Hz0.out, hM.alloc _, by (repeat' (first | exact Below.refl _ _ | assumption | refine Below.setCell ?_ ?_ _ | refine below_drewN ?_ _ | refine Below.drew ?_ | refine Below.alloc ?_ ?_ _ | (with_reducible refine Below.trans ?_ (Below.mono hb ?_)) | (with_reducible refine Below.trans ?_ (Below.mono hb1 ?_)) | (with_reducible refine Below.trans ?_ (Below.mono hb2 ?_)) | (with_reducible refine Below.trans ?_ (Below.mono hb3 ?_)) | (with_reducible refine Below.trans ?_ (Below.mono hb4 ?_)) | (with_reducible refine Below.trans ?_ (Below.mono hb5 ?_)) | (with_reducible refine Below.trans ?_ (Below.mono hb6 ?_)) | omega | (simp; done) | (simp; omega)))⟩
          · obtain rfl : k2 = l.length := by omega
            have hZ2 := hf.out
            have hE2 : firstErr (f2 l) l.length = 0 := firstErr_zero hZ2
            have hv3 : forestFault l = firstOf [firstErr (f3 l) l.length, firstErr (f4 l) l.length] := by rw [Hv2.out, hE2]; rfl
            have Hv3 := Lib.hid hv3
            have HZ2 := Lib.hid hZ2
            clear hv3 hE2 Hv2 hf hZ2 hgk hlt2 hk2
            obtain ⟨wo2, rfl⟩ : ∃ wo2 : World, wo2 = wr := ⟨_, rfl⟩
            have hKs := f1_keys HZ1.out
            have hOn := f1_once HZ1.out
            have HKs := Lib.hid hKs
            have HOn := Lib.hid hOn
            clear hKs hOn
            go_wp2_with fail
            go_loopg [83] l.length (fun gk i wr => ∃ k : Nat, i = .int .i64 k ∧ k ≤ l.length ∧ Hid (gk = l.length - k) ∧ Hid (∀ j, j < k → f3 l j = 0) ∧ MBox wr w.heap.size (upList l) ∧ Below w.heap.size w wr)
            case atStart => exact ⟨0, rfl, by omega, rfl, fun j hj => by omega, hM, hb⟩
            case round =>
              clear hb hM
              obtain ⟨k3, rfl, hk3, hgk, hf, hM, hb⟩ := hrel
              have hz := hb.size
              by_cases hlt3 : k3 < l.length
              · obtain ⟨b, off, ha, c0, c1⟩ := (hl.below hb).topic hlt3
                have Hf3 := Lib.hid (f3_iter HKs.out HOn.out hlt3)
                rw [ha]
                generalize l[k3].1 = x1 at *
                generalize l[k3].2 = x2 at *
                have hMq := hM.alloc (.cells #[.string x1, .string x2] 65)
                have hTq := Box.new wr 65 #[.string x1, .string x2]
                have hbq : Below w.heap.size w (wr.alloc (.cells #[.string x1, .string x2] 65)) := by (repeat' (first | exact Below.refl _ _ | assumption | refine Below.setCell ?_ ?_ _ | refine below_drewN ?_ _ | refine Below.drew ?_ | refine Below.alloc ?_ ?_ _ | (with_reducible refine Below.trans ?_ (Below.mono hb ?_)) | (with_reducible refine Below.trans ?_ (Below.mono hb1 ?_)) | (with_reducible refine Below.trans ?_ (Below.mono hb2 ?_)) | (with_reducible refine Below.trans ?_ (Below.mono hb3 ?_)) | (with_reducible refine Below.trans ?_ (Below.mono hb4 ?_)) | (with_reducible refine Below.trans ?_ (Below.mono hb5 ?_)) | (with_reducible refine Below.trans ?_ (Below.mono hb6 ?_)) | omega | (simp; done) | (simp; omega)))
                go_wp2_with fail
                generalize hwq : wr.alloc (.cells #[.string x1, .string x2] 65) = wq at *
                clear hwq
                obtain ⟨wp, rfl⟩ : ∃ wp : World, wp = wr := ⟨_, rfl⟩
                go_loopg [12, 91] l.length (fun gk s i wi => ∃ j : Nat, s = .string (ForestPure.iterUp e0 l j x2) ∧ i = .int .i64 j ∧ j ≤ l.length ∧ Hid (gk = l.length - j) ∧ Hid (∀ i, i < j → ForestPure.iterUp e0 l i x2 ≠ x1) ∧ wi = wq)
                case atStart => exact ⟨0, rfl, rfl, by omega, rfl, fun i hi => by omega, rfl⟩
                case round =>
                  obtain ⟨j, rfl, rfl, hj, hgj, hjf, rfl⟩ := hrel
                  have hTq_l := hTq.lt; have hTq_0 := hTq.cell 0; have hTq_1 := hTq.cell 1; simp at hTq_0 hTq_1
                  by_cases hjl : j < l.length
                  · have hnext : ForestPure.iterUp e0 l (j + 1) x2 = ForestPure.upOf e0 l (ForestPure.iterUp e0 l j x2) := ForestPure.iterUp_succ' e0 l j x2
                    have Hnext := Lib.hid hnext
                    have hlk : (Instr.lookup 71 (.map (some w.heap.size)) (.string (ForestPure.iterUp e0 l j x2)) false).run Tryd.prog wr = .ok (.string (ForestPure.upOf e0 l (ForestPure.iterUp e0 l j x2))) wr := by
                      rw [← looked_up]; exact MBox.look hMq Tryd.underlying71 Tryd.underlying9 _ Tryd.zeroString _ false
                    clear hnext
                    by_cases he : ForestPure.iterUp e0 l j x2 = x1
                    · have hz14 : f3 l k3 = 14 := Hf3.out.1 ⟨j, hjl, he⟩
                      have he14 : firstErr (f3 l) l.length = 14 := by rw [firstErr_at hlt3 hf (by rw [hz14]; decide), hz14]
                      have hfin : forestFault l = 14 := by rw [Hv3.out, he14]; rfl
                      have Hfin := Lib.hid hfin
                      have hq : ((ForestPure.iterUp e0 l j x2).toList == x1.toList) = true := by rw [beq_iff_eq, he]
                      clear hz14 he14 hfin he
                      generalize ForestPure.iterUp e0 l j x2 = kj at *
                      go_wp2_with fail
                      go_ret
                      exact ⟨by rw [Hfin.out]; rfl, hbq⟩
                    · have hq : ((ForestPure.iterUp e0 l j x2).toList == x1.toList) = false := by rw [beq_eq_false_iff_ne]; exact fun h => he (toList_inj.1 h)
                      have hjf2 : ∀ i, i < j + 1 → ForestPure.iterUp e0 l i x2 ≠ x1 := fun i hi => by
                        by_cases hij : i = j
                        · subst hij; exact he
                        · exact hjf.out i (by omega)
                      have Hjf2 := Lib.hid hjf2
                      clear he hjf2
                      generalize ForestPure.iterUp e0 l j x2 = kj at *
                      go_wp2_with fail
                      go_roundg (l.length - (j + 1))
                      case measure => have := hgj.out; omega
                      case rel => exact ⟨j + 1, by rw [Hnext.out], by go_num, by omega, rfl, Hjf2.out, rfl⟩
                  · obtain rfl : j = l.length := by omega
                    have hz0 : f3 l k3 = 0 := (f3_or l k3).resolve_right fun h => by
                      obtain ⟨i, hi, he⟩ := Hf3.out.2 h
                      exact hjf.out i hi he
                    have Hz0 := Lib.hid hz0
                    clear hz0 hgj
                    generalize ForestPure.iterUp e0 l l.length x2 = kj at *
                    go_wp2_with fail
                    rw [← ha]
                    go_roundg (l.length - (k3 + 1))
                    case measure => have := hgk.out; omega
                    case rel => exact ⟨k3 + 1, by go_num, by omega, rfl, zeros_succ hf.out Hz0.out, hMq, hbq⟩
              · obtain rfl : k3 = l.length := by omega
                have hR := rightF_of HZ1.out HZ2.out hf.out
                have hE3 : firstErr (f3 l) l.length = 0 := firstErr_zero hf.out
                have hv4 : forestFault l = firstOf [firstErr (f4 l) l.length] := by rw [Hv3.out, hE3]; rfl
                have Hv4 := Lib.hid hv4
                clear hv4 hE3 Hv3 hf hgk hlt3 hk3
                obtain ⟨wo3, rfl⟩ : ∃ wo3 : World, wo3 = wr := ⟨_, rfl⟩
                go_wp2_with fail
                refine (forestOf_any l a cap _ (hl.below hb) hlen hR).mono ?_
                rintro e w1 ⟨bF, rfl, ⟨es, hE1, hE2, hE3⟩, hb1⟩
                have hbw := below_next hb hb1
                have hzw := hbw.size
                go_wp2_with ((refine wpList_range_box rfl _ 74 rfl 9 31 Tryd.underlying74 bF es rfl hE1 ?_; intro o' hI))
                go_frame
                have hlens : ∀ p ∈ es, ∃ a cap, p.2 = .slice a (ForestPure.aboveN l (l.length + 1) p.1).length cap ∧ (ForestPure.aboveN l (l.length + 1) p.1).length ≤ 1000001 ∧ ∃ i, i < l.length ∧ f4 l i = (if (ForestPure.aboveN l (l.length + 1) p.1).length > 5 then 2 else 0) := fun p hp => by
                  obtain ⟨a, cap, h1, _⟩ := hE3 p hp
                  have hm : p.1 ∈ (l.take l.length).map (·.1) := hE2 ▸ List.mem_map_of_mem hp
                  rw [List.take_length] at hm
                  obtain ⟨t, ht, h2⟩ := List.mem_map.1 hm
                  obtain ⟨i, hi, rfl⟩ := List.mem_iff_getElem.1 ht
                  refine ⟨a, cap, h1, by have := aboveN_length l (l.length + 1) p.1; omega, i, hi, ?_⟩
                  unfold f4
                  rw [List.getElem?_eq_getElem hi, ← h2]
                have Hlens := Lib.hid hlens
                have hall : ∀ i, i < l.length → ∃ p ∈ es, f4 l i = (if (ForestPure.aboveN l (l.length + 1) p.1).length > 5 then 2 else 0) := fun i hi => by
                  have hm : l[i].1 ∈ es.map (·.1) := by rw [hE2, List.take_length]; exact List.mem_map_of_mem (List.getElem_mem hi)
                  obtain ⟨p, hp, h2⟩ := List.mem_map.1 hm
                  refine ⟨p, hp, ?_⟩
                  unfold f4
                  rw [List.getElem?_eq_getElem hi, h2]
                have Hall := Lib.hid hall
                clear hlens hall hE3 hE2 hE1
                go_loopg [] es.length (fun gk wr => ∃ left : List (ByteArray × Value), Hid (gk = left.length) ∧ IBox wr w1.heap.size bF es left ∧ Hid (∀ p ∈ es, p ∈ left ∨ (ForestPure.aboveN l (l.length + 1) p.1).length ≤ 5) ∧ Hid (∀ p ∈ left, p ∈ es) ∧ Below w.heap.size w wr)
                case atStart => exact ⟨es, rfl, hI, fun p hp => .inl hp, fun p hp => hp, by (repeat' (first | exact Below.refl _ _ | assumption | refine Below.setCell ?_ ?_ _ | refine below_drewN ?_ _ | refine Below.drew ?_ | refine Below.alloc ?_ ?_ _ | (with_reducible refine Below.trans ?_ (Below.mono hb ?_)) | (with_reducible refine Below.trans ?_ (Below.mono hb1 ?_)) | (with_reducible refine Below.trans ?_ (Below.mono hb2 ?_)) | (with_reducible refine Below.trans ?_ (Below.mono hb3 ?_)) | (with_reducible refine Below.trans ?_ (Below.mono hb4 ?_)) | (with_reducible refine Below.trans ?_ (Below.mono hb5 ?_)) | (with_reducible refine Below.trans ?_ (Below.mono hb6 ?_)) | omega | (simp; done) | (simp; omega)))⟩
                case round =>
                  obtain ⟨left, hgk, hIw, hdone, hsub, hbr⟩ := hrel
                  have hzr := hbr.size
                  go_wp2_with ((refine wpList_next_box rfl _ rfl w1.heap.size bF es left rfl hIw ?_ ?_))
                  · intro hnil
                    have hz4 : ∀ i, i < l.length → f4 l i = 0 := fun i hi => by
                      obtain ⟨p, hp, h1⟩ := Hall.out i hi
                      rcases hdone.out p hp with h2 | h2
                      · rw [hnil] at h2; cases h2
                      · rw [h1, if_neg (by omega)]
                    have hfin : forestFault l = 0 := by rw [Hv4.out, firstErr_zero hz4]; rfl
                    have Hfin := Lib.hid hfin
                    clear hz4 hfin hnil
                    go_wp2_with fail
                    go_ret
                    exact ⟨by rw [Hfin.out]; rfl, hbr⟩
                  · intro p0 kk v q w' hleft hI2 hent hg hsz
                    have hin : (kk, v) ∈ es := hsub.out (kk, v) (by rw [hleft]; simp)
                    obtain ⟨a', cap', hv, hle, i, hi, hf4⟩ := Hlens.out (kk, v) hin
                    simp only at hv
                    have hbr2 : Below w.heap.size w w' := hbr.grown hg (by omega) (by rintro j hj; cases hj; omega)
                    have hdone2 : (ForestPure.aboveN l (l.length + 1) kk).length ≤ 5 → ∀ p ∈ es, p ∈ p0 ++ q ∨ (ForestPure.aboveN l (l.length + 1) p.1).length ≤ 5 := fun h5 p hp => by
                      rcases hdone.out p hp with h2 | h2
                      · rw [hleft] at h2
                        simp only [List.mem_append, List.mem_cons] at h2 ⊢
                        rcases h2 with h2 | h2 | h2
                        · exact .inl (.inl h2)
                        · right; rw [h2]; exact h5
                        · exact .inl (.inr h2)
                      · exact .inr h2
                    have hlen2 : (p0 ++ q).length < left.length := by rw [hleft]; simp
                    have hsub2 : ∀ p ∈ p0 ++ q, p ∈ es := fun p hp => hsub.out p (by rw [hleft]; simp only [List.mem_append, List.mem_cons] at hp ⊢; exact hp.elim .inl (fun h => .inr (.inr h)))
                    have hfe : (ForestPure.aboveN l (l.length + 1) kk).length > 5 → forestFault l = 2 := fun h5 => by
                      have : firstErr (f4 l) l.length = 2 := firstErr_const 2 (by decide) (f4_or l) ⟨i, hi, by rw [hf4, if_pos h5]⟩
                      rw [Hv4.out, this]; rfl
                    have Hd2 := Lib.hid hdone2
                    have Hs2 := Lib.hid hsub2
                    have Hfe := Lib.hid hfe
                    rw [hv] at hent
                    rw [hv]
                    clear hdone2 hsub2 hfe hv hf4 hin hleft
                    generalize (ForestPure.aboveN l (l.length + 1) kk).length = n at *
                    by_cases h5 : 5 < n
                    · go_wp2_with fail
                      go_ret
                      exact ⟨by rw [Hfe.out h5]; rfl, hbr2⟩
                    · go_wp2_with fail
                      go_roundg (p0 ++ q).length
                      case measure => have := hgk.out; omega
                      case rel => exact ⟨p0 ++ q, rfl, hI2, Hd2.out (by omega), Hs2.out, hbr2⟩
end Go.Proofs.YtfpoaggkjhcdnaaDoor
