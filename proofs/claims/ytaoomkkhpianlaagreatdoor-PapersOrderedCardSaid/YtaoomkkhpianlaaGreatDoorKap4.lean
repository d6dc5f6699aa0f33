/- Kappa of the reference. -/
import Derived.Test.YtaoomkkhpianlaaGreatDoorKap3
import Derived.Test.YtaoomkkhpianlaaGreatDoorPart
import Derived.Test.YtaoomkkhpianlaaGreatDoorAgree3
namespace Go.Proofs.YtaoomkkhpianlaaGreatDoor
open Go.RowKit Go.Sort
set_option linter.unusedVariables false
set_option linter.unusedSimpArgs false


set_option maxRecDepth 100000 in
set_option maxHeartbeats 4000000 in
theorem kappaOf_any (l : List Mark) (a : Option Addr) (cap : Nat) (pa pb : ByteArray) (w : World) (hs : SA w a l) (hl : l.length ≤ 400) (h0 : marksFault l = 0) :
    Calls Tryz.prog 15 #[.slice a l.length cap, .string pa, .string pb] w (Gives (.tuple #[.agg #[.int .i64 (kapRN l pa pb), .int .i64 (kapRD l pa pb)], .int .i64 (kapRE l pa pb)]) w) := by
  generalize hq : kapRN l pa pb = qn at *
  generalize hr : kapRD l pa pb = qd at *
  generalize hq3 : kapRE l pa pb = qe at *
  have HQ := Lib.hid hq
  have HR := Lib.hid hr
  have HE := Lib.hid hq3
  have H0 := Lib.hid h0
  have hok := fault_scores h0
  clear hq hr hq3 h0
  have HS := Lib.hid (fun p h W (hW : SA W a l) => scoreOf_any l a cap p h W hW (by omega))
  unfold kapRN at HQ
  unfold kapRD at HR
  unfold kapRE at HE
  go_enter Tryz.func15, Tryz.ntmps15
  by_cases hab : pa = pb
  · have hab' := tl_eq hab
    rw [if_pos hab] at HQ HR HE
    obtain rfl := HQ.out
    obtain rfl := HR.out
    obtain rfl := HE.out
    clear hab
    go_wp2_with fail
    refine bodyPost_ret (v := .tuple #[.agg #[.int .i64 0, .int .i64 0], .int .i64 6]) (by simp only [results, Tryz.results15]; go_simp) rfl ⟨by rfl, ?_⟩
    (repeat' (first | exact Below.refl _ _ | assumption | refine Below.setCell ?_ ?_ _ | refine below_drewN ?_ _ | refine Below.drew ?_ | refine Below.alloc ?_ ?_ _ | (with_reducible refine Below.trans ?_ (Below.mono hb ?_)) | (with_reducible refine Below.trans ?_ (Below.mono hb0 ?_)) | (with_reducible refine Below.trans ?_ (Below.mono hb1 ?_)) | (with_reducible refine Below.trans ?_ (Below.mono hb2 ?_)) | (with_reducible refine Below.trans ?_ (Below.mono hb3 ?_)) | (with_reducible refine Below.trans ?_ (Below.mono hb4 ?_)) | (with_reducible refine Below.trans ?_ (Below.mono hb5 ?_)) | (with_reducible refine Below.trans ?_ (Below.mono hb6 ?_)) | (with_reducible refine Below.trans ?_ (Below.mono hb7 ?_)) | (with_reducible refine Below.trans ?_ (Below.mono hb8 ?_)) | (with_reducible refine Below.trans ?_ (Below.mono hb9 ?_)) | (with_reducible refine Below.trans ?_ (Below.mono hb10 ?_)) | (with_reducible refine Below.trans ?_ (Below.mono hb11 ?_)) | (with_reducible refine Below.trans ?_ (Below.mono hb12 ?_)) | (with_reducible refine Below.trans ?_ (Below.mono hb13 ?_)) | (with_reducible refine Below.trans ?_ (Below.mono hb14 ?_)) | (with_reducible refine Below.trans ?_ (Below.mono hb15 ?_)) | omega | (simp; done) | (simp; omega)))
  · have hab' := tl_ne hab
    rw [if_neg hab] at HQ HR HE
    clear hab
    have hR0 := ((Box.new w 30 #[.int .i64 0, .int .i64 0]).alloc (.cells #[.int .i64 0, .int .i64 0, .int .i64 0, .int .i64 0, .int .i64 0, .int .i64 0, .int .i64 0, .int .i64 0, .int .i64 0, .int .i64 0, .int .i64 0] 112)).alloc (.cells #[.int .i64 0, .int .i64 0, .int .i64 0, .int .i64 0, .int .i64 0, .int .i64 0, .int .i64 0, .int .i64 0, .int .i64 0, .int .i64 0, .int .i64 0] 112)
    have hF10 := (Box.newAt (w.alloc (.cells #[.int .i64 0, .int .i64 0] 30)) (w.heap.size + 1) 112 #[.int .i64 0, .int .i64 0, .int .i64 0, .int .i64 0, .int .i64 0, .int .i64 0, .int .i64 0, .int .i64 0, .int .i64 0, .int .i64 0, .int .i64 0] (by simp)).alloc (.cells #[.int .i64 0, .int .i64 0, .int .i64 0, .int .i64 0, .int .i64 0, .int .i64 0, .int .i64 0, .int .i64 0, .int .i64 0, .int .i64 0, .int .i64 0] 112)
    have hF20 := Box.newAt ((w.alloc (.cells #[.int .i64 0, .int .i64 0] 30)).alloc (.cells #[.int .i64 0, .int .i64 0, .int .i64 0, .int .i64 0, .int .i64 0, .int .i64 0, .int .i64 0, .int .i64 0, .int .i64 0, .int .i64 0, .int .i64 0] 112)) (w.heap.size + 2) 112 #[.int .i64 0, .int .i64 0, .int .i64 0, .int .i64 0, .int .i64 0, .int .i64 0, .int .i64 0, .int .i64 0, .int .i64 0, .int .i64 0, .int .i64 0] (by simp)
    have hb0 : Below w.heap.size w (((w.alloc (.cells #[.int .i64 0, .int .i64 0] 30)).alloc (.cells #[.int .i64 0, .int .i64 0, .int .i64 0, .int .i64 0, .int .i64 0, .int .i64 0, .int .i64 0, .int .i64 0, .int .i64 0, .int .i64 0, .int .i64 0] 112)).alloc (.cells #[.int .i64 0, .int .i64 0, .int .i64 0, .int .i64 0, .int .i64 0, .int .i64 0, .int .i64 0, .int .i64 0, .int .i64 0, .int .i64 0, .int .i64 0] 112)) := by (repeat' (first | exact Below.refl _ _ | assumption | refine Below.setCell ?_ ?_ _ | refine below_drewN ?_ _ | refine Below.drew ?_ | refine Below.alloc ?_ ?_ _ | (with_reducible refine Below.trans ?_ (Below.mono hb ?_)) | (with_reducible refine Below.trans ?_ (Below.mono hb0 ?_)) | (with_reducible refine Below.trans ?_ (Below.mono hb1 ?_)) | (with_reducible refine Below.trans ?_ (Below.mono hb2 ?_)) | (with_reducible refine Below.trans ?_ (Below.mono hb3 ?_)) | (with_reducible refine Below.trans ?_ (Below.mono hb4 ?_)) | (with_reducible refine Below.trans ?_ (Below.mono hb5 ?_)) | (with_reducible refine Below.trans ?_ (Below.mono hb6 ?_)) | (with_reducible refine Below.trans ?_ (Below.mono hb7 ?_)) | (with_reducible refine Below.trans ?_ (Below.mono hb8 ?_)) | (with_reducible refine Below.trans ?_ (Below.mono hb9 ?_)) | (with_reducible refine Below.trans ?_ (Below.mono hb10 ?_)) | (with_reducible refine Below.trans ?_ (Below.mono hb11 ?_)) | (with_reducible refine Below.trans ?_ (Below.mono hb12 ?_)) | (with_reducible refine Below.trans ?_ (Below.mono hb13 ?_)) | (with_reducible refine Below.trans ?_ (Below.mono hb14 ?_)) | (with_reducible refine Below.trans ?_ (Below.mono hb15 ?_)) | omega | (simp; done) | (simp; omega)))
    have hz0 : (((w.alloc (.cells #[.int .i64 0, .int .i64 0] 30)).alloc (.cells #[.int .i64 0, .int .i64 0, .int .i64 0, .int .i64 0, .int .i64 0, .int .i64 0, .int .i64 0, .int .i64 0, .int .i64 0, .int .i64 0, .int .i64 0] 112)).alloc (.cells #[.int .i64 0, .int .i64 0, .int .i64 0, .int .i64 0, .int .i64 0, .int .i64 0, .int .i64 0, .int .i64 0, .int .i64 0, .int .i64 0, .int .i64 0] 112)).heap.size = w.heap.size + 3 := by simp
    go_wp2_with fail
    refine (MarkedPapers_any l a cap _ (hs.below hb0) (by omega)).mono ?_
    rintro e wk ⟨vk, rfl, hownk, hbk⟩
    obtain ⟨aK, capK, rfl, hsaK, hbK, _⟩ := hownk.sa
    have hF1k := hF10.below hbk
    have hF2k := hF20.below hbk
    have hRk := hR0.below hbk
    have hbwk := below_next hb0 hbk
    have hzk := hbk.size
    rw [hz0] at hzk
    have HbK : Hid (∀ x : Addr, aK = some x → w.heap.size + 2 < x.block ∧ x.block < wk.heap.size) := fun x hx => by have := hbK x hx; rw [hz0] at this; omega
    have hkl := keysOf_length (fun x => x.1) l
    clear hownk hbK hbk hF10 hF20 hR0 hb0 hz0
    generalize keysOf (fun x => x.1) l = ks at *
    go_wp2_with fail
    go_loopg [10, 11, 27] ks.length (fun gk nv sv i wr => ∃ k : Nat, i = .int .i64 k ∧ k ≤ ks.length ∧ Hid (gk = ks.length - k) ∧ nv = .int .i64 ((kap l pa pb (ks.take k)).length : Nat) ∧ sv = .int .i64 (sameN (kap l pa pb (ks.take k))) ∧ Box wr (w.heap.size + 1) 112 (elev (cntA (kap l pa pb (ks.take k)))) ∧ Box wr (w.heap.size + 2) 112 (elev (cntB (kap l pa pb (ks.take k)))) ∧ Box wr w.heap.size 30 #[.int .i64 0, .int .i64 0] ∧ SA wr aK ks ∧ Below w.heap.size w wr ∧ wk.heap.size ≤ wr.heap.size)
    case atStart => exact ⟨0, rfl, by omega, rfl, rfl, rfl, hF1k, hF2k, hRk, hsaK, hbwk, Nat.le_refl _⟩
    clear hF1k hF2k hRk hsaK hbwk
    obtain ⟨k, rfl, hk, hgk, rfl, rfl, hF1, hF2, hR, hsaK, hb, hz⟩ := hrel
    have hLl : (kap l pa pb (ks.take k)).length ≤ 400 := by
      have h1 := kap_len l pa pb (ks.take k)
      rw [List.length_take] at h1
      omega
    by_cases hlt : k < ks.length
    · obtain ⟨kb, koff, haK, ck⟩ := hsaK.str hlt
      have htake := List.take_succ_eq_append_getElem hlt
      have Hks := Lib.hid (kap_snoc l pa pb (ks.take k) ks[k])
      rw [← htake] at Hks
      have HaK := Lib.hid haK
      rw [haK]
      clear haK htake
      generalize ks[k] = kk at *
      have HSa := Lib.hid (HS.out kk pa)
      have HSb := Lib.hid (HS.out kk pb)
      unfold scVal at HSa HSb
      generalize hL : kap l pa pb (ks.take k) = L at *
      clear hL
      unfold bothOf at Hks
      cases hsa' : scOf l kk pa with
      | none =>
        rw [hsa'] at HSa Hks
        simp only [Option.getD_none, Option.isSome_none] at HSa
        simp only [List.append_nil] at Hks
        cases hsb' : scOf l kk pb with
        | none =>
          rw [hsb'] at HSb
          simp only [Option.getD_none, Option.isSome_none] at HSb
          go_wp2_with fail
          refine (HSa.out _ (hs.below hb)).mono ?_
          rintro e wa ⟨rfl, hba⟩
          go_wp2_with fail
          refine (HSb.out _ (hs.below (below_next hb hba))).mono ?_
          rintro e wb ⟨rfl, hbb⟩
          have hbab := below_next hba hbb
          go_wp2_with fail
          rw [← HaK.out]
          go_roundg (ks.length - (k + 1))
          case measure => have := hgk.out; omega
          case rel => exact ⟨k + 1, by go_num, by omega, rfl, by rw [Hks.out], by rw [Hks.out], by rw [Hks.out]; exact hF1.below hbab, by rw [Hks.out]; exact hF2.below hbab, hR.below hbab, hsaK.below hbab, below_next hb hbab, by have := hbab.size; omega⟩
        | some o =>
          rw [hsb'] at HSb
          simp only [Option.getD_some, Option.isSome_some] at HSb
          go_wp2_with fail
          refine (HSa.out _ (hs.below hb)).mono ?_
          rintro e wa ⟨rfl, hba⟩
          go_wp2_with fail
          refine (HSb.out _ (hs.below (below_next hb hba))).mono ?_
          rintro e wb ⟨rfl, hbb⟩
          have hbab := below_next hba hbb
          go_wp2_with fail
          rw [← HaK.out]
          go_roundg (ks.length - (k + 1))
          case measure => have := hgk.out; omega
          case rel => exact ⟨k + 1, by go_num, by omega, rfl, by rw [Hks.out], by rw [Hks.out], by rw [Hks.out]; exact hF1.below hbab, by rw [Hks.out]; exact hF2.below hbab, hR.below hbab, hsaK.below hbab, below_next hb hbab, by have := hbab.size; omega⟩
      | some i =>
        rw [hsa'] at HSa Hks
        simp only [Option.getD_some, Option.isSome_some] at HSa
        cases hsb' : scOf l kk pb with
        | none =>
          rw [hsb'] at HSb Hks
          simp only [Option.getD_none, Option.isSome_none] at HSb
          simp only [List.append_nil] at Hks
          go_wp2_with fail
          refine (HSa.out _ (hs.below hb)).mono ?_
          rintro e wa ⟨rfl, hba⟩
          go_wp2_with fail
          refine (HSb.out _ (hs.below (below_next hb hba))).mono ?_
          rintro e wb ⟨rfl, hbb⟩
          have hbab := below_next hba hbb
          go_wp2_with fail
          rw [← HaK.out]
          go_roundg (ks.length - (k + 1))
          case measure => have := hgk.out; omega
          case rel => exact ⟨k + 1, by go_num, by omega, rfl, by rw [Hks.out], by rw [Hks.out], by rw [Hks.out]; exact hF1.below hbab, by rw [Hks.out]; exact hF2.below hbab, hR.below hbab, hsaK.below hbab, below_next hb hbab, by have := hbab.size; omega⟩
        | some o =>
          rw [hsb'] at HSb Hks
          simp only [Option.getD_some, Option.isSome_some] at HSb
          simp only at Hks
          have hibd := scOf_bd hok hsa'
          have hobd := scOf_bd hok hsb'
          clear hsa' hsb'
          obtain ⟨m, rfl⟩ := Int.eq_ofNat_of_zero_le hibd.1
          obtain ⟨n, rfl⟩ := Int.eq_ofNat_of_zero_le hobd.1
          have hm : m < 11 := by omega
          have hn : n < 11 := by omega
          have hm0 : (0 : Int) ≤ (m : Int) := by omega
          have hm1 : (m : Int) < 11 := by omega
          have hn0 : (0 : Int) ≤ (n : Int) := by omega
          have hn1 : (n : Int) < 11 := by omega
          go_wp2_with fail
          refine (HSa.out _ (hs.below hb)).mono ?_
          rintro e wa ⟨rfl, hba⟩
          go_wp2_with fail
          refine (HSb.out _ (hs.below (below_next hb hba))).mono ?_
          rintro e w' ⟨rfl, hbb⟩
          have hbab := below_next hba hbb
          have hb2 := below_next hb hbab
          have hF12 := hF1.below hbab
          have hF22 := hF2.below hbab
          have hR2 := hR.below hbab
          have hsaK2 := hsaK.below hbab
          have hzz := hbab.size
          clear hF1 hF2 hR hsaK hb hba hbb hbab HSa HSb HS
          have hca := cntA_bd L m
          have hcb := cntB_bd L n
          have hsn := sameN_bd L
          have c1 := hF12.cell m
          rw [elev_get _ hm] at c1
          have c2 := hF22.cell n
          rw [elev_get _ hn] at c2
          have f1 := hF12.frozen m
          have f2 := hF22.frozen n
          have hF13 := (hF12.set m (.int .i64 (cntA L m + 1))).setOther (p := ⟨w.heap.size + 2, n, none⟩) (by simp) (.int .i64 (cntB L n + 1))
          rw [elev_set (cntA L) (cntA (L ++ [((m : Int), (n : Int))])) hm _ (fun j => by rw [cntA_snoc]; by_cases h : j = m; (subst h; simp); (rw [if_neg h, if_neg (by simp; omega)]; omega))] at hF13
          have hF23 := (hF22.setOther (p := ⟨w.heap.size + 1, m, none⟩) (by simp) (.int .i64 (cntA L m + 1))).set n (.int .i64 (cntB L n + 1))
          rw [elev_set (cntB L) (cntB (L ++ [((m : Int), (n : Int))])) hn _ (fun j => by rw [cntB_snoc]; by_cases h : j = n; (subst h; simp); (rw [if_neg h, if_neg (by simp; omega)]; omega))] at hF23
          have hR3 := (hR2.setOther (p := ⟨w.heap.size + 1, m, none⟩) (by simp <;> omega) (.int .i64 (cntA L m + 1))).setOther (p := ⟨w.heap.size + 2, n, none⟩) (by simp <;> omega) (.int .i64 (cntB L n + 1))
          have hsaK3 := (hsaK2.putOther (p := ⟨w.heap.size + 1, m, none⟩) (fun x hx => by have := (HbK.out x hx).1; simp; omega) (.int .i64 (cntA L m + 1))).putOther (p := ⟨w.heap.size + 2, n, none⟩) (fun x hx => by have := (HbK.out x hx).1; simp; omega) (.int .i64 (cntB L n + 1))
          have hb3 := (hb2.setCell (p := ⟨w.heap.size + 1, m, none⟩) (by simp <;> omega) (.int .i64 (cntA L m + 1))).setCell (p := ⟨w.heap.size + 2, n, none⟩) (by simp <;> omega) (.int .i64 (cntB L n + 1))
          have hz3' : wk.heap.size ≤ ((w'.setCell ⟨w.heap.size + 1, m, none⟩ (.int .i64 (cntA L m + 1))).setCell ⟨w.heap.size + 2, n, none⟩ (.int .i64 (cntB L n + 1))).heap.size := by simp [World.setCell]; omega
          have Hsm := Lib.hid (sameN_snoc L ((m : Int), (n : Int)))
          simp only at Hsm
          generalize cntA L m = ca at *
          generalize cntB L n = cb at *
          clear hF12 hF22 hR2 hb2 hsaK2
          by_cases hmn : (m : Int) = n
          · rw [if_pos hmn] at Hsm
            have hmn' : ((m : Int) == (n : Int)) = true := by simp [hmn]
            clear hmn
            go_wp2_with fail
            rw [← HaK.out]
            go_roundg (ks.length - (k + 1))
            case measure => have := hgk.out; omega
            case rel => exact ⟨k + 1, by go_num, by omega, rfl, by rw [Hks.out, List.length_append]; go_num, by rw [Hks.out, Hsm.out], by rw [Hks.out]; exact hF13, by rw [Hks.out]; exact hF23, hR3, hsaK3, hb3, hz3'⟩
          · rw [if_neg hmn] at Hsm
            have hmn' : ((m : Int) == (n : Int)) = false := by simpa using hmn
            clear hmn
            go_wp2_with fail
            rw [← HaK.out]
            go_roundg (ks.length - (k + 1))
            case measure => have := hgk.out; omega
            case rel => exact ⟨k + 1, by go_num, by omega, rfl, by rw [Hks.out, List.length_append]; go_num, by rw [Hks.out, Hsm.out, Int.add_zero], by rw [Hks.out]; exact hF13, by rw [Hks.out]; exact hF23, hR3, hsaK3, hb3, hz3'⟩
    · obtain rfl : k = ks.length := by omega
      rw [List.take_length] at hF1 hF2 hLl ⊢
      clear hlt hgk hsaK HS
      generalize kap l pa pb ks = L at *
      by_cases hL0 : L = []
      · subst hL0
        have e1 : kresN [] = 0 := by unfold kresN; rw [if_pos rfl]
        have e2 : kresD [] = 0 := by unfold kresD; rw [if_pos rfl]
        have e3 : kresE [] = 8 := by unfold kresE; rw [if_pos rfl]
        rw [e1] at HQ
        rw [e2] at HR
        rw [e3] at HE
        obtain rfl := HQ.out
        obtain rfl := HR.out
        obtain rfl := HE.out
        have hR_l := hR.lt; have hR_0 := hR.cell 0; have hR_1 := hR.cell 1; simp at hR_0 hR_1
        have hR_f0 := hR.frozen 0; have hR_f1 := hR.frozen 1
        clear e1 e2 e3
        go_wp2_with fail
        refine bodyPost_ret (v := .tuple #[.agg #[.int .i64 0, .int .i64 0], .int .i64 8]) (by simp only [results, Tryz.results15]; go_simp) rfl ⟨by rfl, ?_⟩
        (repeat' (first | exact Below.refl _ _ | assumption | refine Below.setCell ?_ ?_ _ | refine below_drewN ?_ _ | refine Below.drew ?_ | refine Below.alloc ?_ ?_ _ | (with_reducible refine Below.trans ?_ (Below.mono hb ?_)) | (with_reducible refine Below.trans ?_ (Below.mono hb0 ?_)) | (with_reducible refine Below.trans ?_ (Below.mono hb1 ?_)) | (with_reducible refine Below.trans ?_ (Below.mono hb2 ?_)) | (with_reducible refine Below.trans ?_ (Below.mono hb3 ?_)) | (with_reducible refine Below.trans ?_ (Below.mono hb4 ?_)) | (with_reducible refine Below.trans ?_ (Below.mono hb5 ?_)) | (with_reducible refine Below.trans ?_ (Below.mono hb6 ?_)) | (with_reducible refine Below.trans ?_ (Below.mono hb7 ?_)) | (with_reducible refine Below.trans ?_ (Below.mono hb8 ?_)) | (with_reducible refine Below.trans ?_ (Below.mono hb9 ?_)) | (with_reducible refine Below.trans ?_ (Below.mono hb10 ?_)) | (with_reducible refine Below.trans ?_ (Below.mono hb11 ?_)) | (with_reducible refine Below.trans ?_ (Below.mono hb12 ?_)) | (with_reducible refine Below.trans ?_ (Below.mono hb13 ?_)) | (with_reducible refine Below.trans ?_ (Below.mono hb14 ?_)) | (with_reducible refine Below.trans ?_ (Below.mono hb15 ?_)) | omega | (simp; done) | (simp; omega)))
      · have hl1 : 1 ≤ L.length := List.length_pos_iff.2 hL0
        have hne : ((L.length : Int) == 0) = false := by simp; omega
        unfold kresN at HQ
        unfold kresD at HR
        unfold kresE at HE
        rw [if_neg hL0] at HQ HR HE
        obtain rfl := HE.out
        have hmul := mul_in (x := (L.length : Int)) (y := (L.length : Int)) (X := 400) (Y := 400) (by omega) (by omega) (by omega) (by omega)
        clear hL0
        go_wp2_with fail
        obtain ⟨wz, rfl⟩ : ∃ wz : World, wz = wr := ⟨_, rfl⟩
        go_loopg [12, 70] 11 (fun gk ch i wx => ∃ j : Nat, i = .int .i64 j ∧ j ≤ 11 ∧ Hid (gk = 11 - j) ∧ ch = .int .i64 (chanceN L j) ∧ Below wz.heap.size wz wx)
        case atStart => exact ⟨0, rfl, by omega, rfl, rfl, Below.refl _ _⟩
        obtain ⟨j, rfl, hj, hgj, rfl, hbx⟩ := hrel
        by_cases hjl : j < 11
        · have c1 := (hF1.below hbx).cell j
          rw [elev_get _ hjl] at c1
          have c2 := (hF2.below hbx).cell j
          rw [elev_get _ hjl] at c2
          have hj0 : (0 : Int) ≤ (j : Int) := by omega
          have hj1 : (j : Int) < 11 := by omega
          have hca := cntA_bd L j
          have hcb := cntB_bd L j
          have hch := chance_bd L j
          have hm0 := mul_in (x := (j : Int)) (y := (L.length : Int) * L.length) (X := 11) (Y := 160000) (by omega) (by omega) (by omega) (by omega)
          have hm1 := mul_in (x := cntA L j) (y := cntB L j) (X := 400) (Y := 400) (by omega) (by omega) (by omega) (by omega)
          have Hsn := Lib.hid (show chanceN L (j + 1) = chanceN L j + cntA L j * cntB L j from rfl)
          generalize cntA L j = ca at *
          generalize cntB L j = cb at *
          generalize chanceN L j = ch at *
          have hw1 : IntKind.i64.wrap (ca * cb) = ca * cb := IntWalk.i64_in _ (by omega)
          have hw2 : IntKind.i64.wrap (ch + ca * cb) = ch + ca * cb := IntWalk.i64_in _ (by omega)
          clear hca hcb hch hm0 hm1
          go_wp2_with fail
          go_quiet (fail)
          go_wp2_with fail
          go_roundg (11 - (j + 1))
          case measure => have := hgj.out; omega
          case rel => exact ⟨j + 1, by go_num, by omega, rfl, by rw [Hsn.out], by (repeat' (first | exact Below.refl _ _ | assumption | refine Below.setCell ?_ ?_ _ | refine below_drewN ?_ _ | refine Below.drew ?_ | refine Below.alloc ?_ ?_ _ | (with_reducible refine Below.trans ?_ (Below.mono hb ?_)) | (with_reducible refine Below.trans ?_ (Below.mono hb0 ?_)) | (with_reducible refine Below.trans ?_ (Below.mono hb1 ?_)) | (with_reducible refine Below.trans ?_ (Below.mono hb2 ?_)) | (with_reducible refine Below.trans ?_ (Below.mono hb3 ?_)) | (with_reducible refine Below.trans ?_ (Below.mono hb4 ?_)) | (with_reducible refine Below.trans ?_ (Below.mono hb5 ?_)) | (with_reducible refine Below.trans ?_ (Below.mono hb6 ?_)) | (with_reducible refine Below.trans ?_ (Below.mono hb7 ?_)) | (with_reducible refine Below.trans ?_ (Below.mono hb8 ?_)) | (with_reducible refine Below.trans ?_ (Below.mono hb9 ?_)) | (with_reducible refine Below.trans ?_ (Below.mono hb10 ?_)) | (with_reducible refine Below.trans ?_ (Below.mono hb11 ?_)) | (with_reducible refine Below.trans ?_ (Below.mono hb12 ?_)) | (with_reducible refine Below.trans ?_ (Below.mono hb13 ?_)) | (with_reducible refine Below.trans ?_ (Below.mono hb14 ?_)) | (with_reducible refine Below.trans ?_ (Below.mono hb15 ?_)) | omega | (simp; done) | (simp; omega)))⟩
        · obtain rfl : j = 11 := by omega
          have hch := chance_bd L 11
          have hcl := chance_le L 11
          have hsn := sameN_bd L
          have hms := mul_in (x := (L.length : Int)) (y := sameN L) (X := 400) (Y := 400) (by omega) (by omega) (by omega) (by omega)
          have hRx := hR.below hbx
          have hbwx := below_next hb hbx
          have HL : Hid ((L.length : Int) * L.length ≠ chanceN L 11 → ∀ W, Calls Tryz.prog 74 #[.int .i64 ((L.length : Int) * sameN L - chanceN L 11), .int .i64 ((L.length : Int) * L.length - chanceN L 11)] W (Gives (low ((L.length : Int) * sameN L - chanceN L 11) ((L.length : Int) * L.length - chanceN L 11)) W)) := fun hn W => part_any _ _ W (by omega) (by omega) (by omega)
          generalize chanceN L 11 = ch at *
          generalize sameN L = sn at *
          clear hF1 hF2 hjl hgj hbx
          by_cases hcc : (L.length : Int) * L.length = ch
          · rw [if_pos hcc] at HQ HR
            have hcc' : ((L.length : Int) * L.length == ch) = true := by simp [hcc]
            obtain rfl := HQ.out
            obtain rfl := HR.out
            clear hcc HL
            have hRx_l := hRx.lt; have hRx_0 := hRx.cell 0; have hRx_1 := hRx.cell 1; simp at hRx_0 hRx_1
            have hRx_f0 := hRx.frozen 0; have hRx_f1 := hRx.frozen 1
            go_wp2_with fail
            refine bodyPost_ret (v := .tuple #[.agg #[.int .i64 1, .int .i64 1], .int .i64 0]) (by simp only [results, Tryz.results15]; go_simp) rfl ⟨by rfl, ?_⟩
            (repeat' (first | exact Below.refl _ _ | assumption | refine Below.setCell ?_ ?_ _ | refine below_drewN ?_ _ | refine Below.drew ?_ | refine Below.alloc ?_ ?_ _ | (with_reducible refine Below.trans ?_ (Below.mono hb ?_)) | (with_reducible refine Below.trans ?_ (Below.mono hb0 ?_)) | (with_reducible refine Below.trans ?_ (Below.mono hb1 ?_)) | (with_reducible refine Below.trans ?_ (Below.mono hb2 ?_)) | (with_reducible refine Below.trans ?_ (Below.mono hb3 ?_)) | (with_reducible refine Below.trans ?_ (Below.mono hb4 ?_)) | (with_reducible refine Below.trans ?_ (Below.mono hb5 ?_)) | (with_reducible refine Below.trans ?_ (Below.mono hb6 ?_)) | (with_reducible refine Below.trans ?_ (Below.mono hb7 ?_)) | (with_reducible refine Below.trans ?_ (Below.mono hb8 ?_)) | (with_reducible refine Below.trans ?_ (Below.mono hb9 ?_)) | (with_reducible refine Below.trans ?_ (Below.mono hb10 ?_)) | (with_reducible refine Below.trans ?_ (Below.mono hb11 ?_)) | (with_reducible refine Below.trans ?_ (Below.mono hb12 ?_)) | (with_reducible refine Below.trans ?_ (Below.mono hb13 ?_)) | (with_reducible refine Below.trans ?_ (Below.mono hb14 ?_)) | (with_reducible refine Below.trans ?_ (Below.mono hb15 ?_)) | omega | (simp; done) | (simp; omega)))
          · rw [if_neg hcc] at HQ HR
            have hcc' : ((L.length : Int) * L.length == ch) = false := by simpa using hcc
            have hw1 : IntKind.i64.wrap ((L.length : Int) * L.length) = (L.length : Int) * L.length := IntWalk.i64_in _ (by omega)
            have hw2 : IntKind.i64.wrap ((L.length : Int) * sn) = (L.length : Int) * sn := IntWalk.i64_in _ (by omega)
            have hw3 : IntKind.i64.wrap ((L.length : Int) * sn - ch) = (L.length : Int) * sn - ch := IntWalk.i64_in _ (by omega)
            have hw4 : IntKind.i64.wrap ((L.length : Int) * L.length - ch) = (L.length : Int) * L.length - ch := IntWalk.i64_in _ (by omega)
            have HL2 := Lib.hid (HL.out hcc)
            unfold low at HL2
            rw [HQ.out, HR.out] at HL2
            clear hcc HL
            go_wp2_with fail
            refine (HL2.out _).mono ?_
            rintro e wo ⟨rfl, hbo⟩
            have hRo := hRx.below hbo
            have hbwo := below_next hbwx hbo
            have hRo_l := hRo.lt; have hRo_0 := hRo.cell 0; have hRo_1 := hRo.cell 1; simp at hRo_0 hRo_1
            have hRo_f0 := hRo.frozen 0; have hRo_f1 := hRo.frozen 1
            go_wp2_with fail
            refine bodyPost_ret (v := .tuple #[.agg #[.int .i64 qn, .int .i64 qd], .int .i64 0]) (by simp only [results, Tryz.results15]; go_simp) rfl ⟨by rfl, ?_⟩
            (repeat' (first | exact Below.refl _ _ | assumption | refine Below.setCell ?_ ?_ _ | refine below_drewN ?_ _ | refine Below.drew ?_ | refine Below.alloc ?_ ?_ _ | (with_reducible refine Below.trans ?_ (Below.mono hb ?_)) | (with_reducible refine Below.trans ?_ (Below.mono hb0 ?_)) | (with_reducible refine Below.trans ?_ (Below.mono hb1 ?_)) | (with_reducible refine Below.trans ?_ (Below.mono hb2 ?_)) | (with_reducible refine Below.trans ?_ (Below.mono hb3 ?_)) | (with_reducible refine Below.trans ?_ (Below.mono hb4 ?_)) | (with_reducible refine Below.trans ?_ (Below.mono hb5 ?_)) | (with_reducible refine Below.trans ?_ (Below.mono hb6 ?_)) | (with_reducible refine Below.trans ?_ (Below.mono hb7 ?_)) | (with_reducible refine Below.trans ?_ (Below.mono hb8 ?_)) | (with_reducible refine Below.trans ?_ (Below.mono hb9 ?_)) | (with_reducible refine Below.trans ?_ (Below.mono hb10 ?_)) | (with_reducible refine Below.trans ?_ (Below.mono hb11 ?_)) | (with_reducible refine Below.trans ?_ (Below.mono hb12 ?_)) | (with_reducible refine Below.trans ?_ (Below.mono hb13 ?_)) | (with_reducible refine Below.trans ?_ (Below.mono hb14 ?_)) | (with_reducible refine Below.trans ?_ (Below.mono hb15 ?_)) | omega | (simp; done) | (simp; omega)))
end Go.Proofs.YtaoomkkhpianlaaGreatDoor
