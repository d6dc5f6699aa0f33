/- What gives authors away: of the reference. -/
import Derived.Test.YthajoedabjfaaaaGreatDoorAnon3
import Derived.Test.YthajoedabjfaaaaGreatDoorAnon1
import Derived.Test.YthajoedabjfaaaaGreatDoorAnon2
import Derived.Test.YthajoedabjfaaaaGreatDoorList
import Derived.Test.YthajoedabjfaaaaGreatDoorEnv
namespace Go.Proofs.YthajoedabjfaaaaGreatDoor
open Go.RowKit Go.Sort
set_option linter.unusedVariables false
set_option linter.unusedSimpArgs false

theorem dec_comm (a b : ByteArray) : decide (a = b) = decide (b = a) := decide_eq_decide.2 ⟨Eq.symm, Eq.symm⟩
theorem our_any (x : ByteArray) : [(⟨#[111, 117, 114]⟩ : ByteArray), ⟨#[109, 121]⟩, ⟨#[119, 101]⟩].any (fun y => decide (y = x)) = isOur x := by
  rw [isOur_eq, dec_comm x, dec_comm x, dec_comm x, List.any_cons, List.any_cons, List.any_cons, List.any_nil, Bool.or_false]
theorem late_any (x : ByteArray) : [(⟨#[112, 114, 101, 118, 105, 111, 117, 115]⟩ : ByteArray), ⟨#[101, 97, 114, 108, 105, 101, 114]⟩, ⟨#[112, 114, 105, 111, 114]⟩, ⟨#[114, 101, 99, 101, 110, 116]⟩].any (fun y => decide (y = x)) = isLate x := by
  rw [isLate_eq, dec_comm x, dec_comm x, dec_comm x, dec_comm x, List.any_cons, List.any_cons, List.any_cons, List.any_cons, List.any_nil, Bool.or_false]
set_option maxRecDepth 100000 in
set_option maxHeartbeats 64000000 in
theorem anonymityOf_any (t : ByteArray) (names homes : List ByteArray) (na ha : Option Addr) (nc hc : Nat) (w : World) (hE : Env w) (hn : SA w na names) (hh : SA w ha homes) (hnl : names.length ≤ 20) (hhl : homes.length ≤ 50) (hok : (names ++ homes).all nameB = true) (hs : t.size ≤ 20000) :
    Calls Tryz.prog 13 #[.slice na names.length nc, .slice ha homes.length hc, .string t] w (fun e w' => Below w.heap.size w w' ∧ ∃ a c, e = .returned (.slice a (compG (sortG (allG t names homes))).length c) ∧ SA w' a (compG (sortG (allG t names homes)))) := by
  have Hnm : Hid (∀ x ∈ names, nameB x = true) := fun x hx => List.all_eq_true.1 hok x (List.mem_append_left _ hx)
  have Hhm : Hid (∀ x ∈ homes, nameB x = true) := fun x hx => List.all_eq_true.1 hok x (List.mem_append_right _ hx)
  have HSp := Lib.hid (spotsOf_any t w (by omega))
  have HWo := Lib.hid (fun W => wordsOfR_any t W (by omega))
  have Hall : Hid (namesG t names ++ homesG t homes ++ addAll 4 ⟨#[]⟩ (oursS t) = allG t names homes) := rfl
  clear hok
  go_enter Tryz.func13, Tryz.ntmps13
  go_wp2_with fail
  refine HSp.out.mono ?_
  rintro e w1 ⟨v1, rfl, hown1, hb1⟩
  obtain ⟨sa, sc, rfl, hsa1, hf1, -⟩ := hown1.sa
  go_wp2_with fail
  refine (HWo.out _).mono ?_
  rintro e w2 ⟨v2, rfl, hown2, hb2⟩
  obtain ⟨wa, wc, rfl, hsa2, hf2, hcw⟩ := hown2.sa
  have hb02 := below_next hb1 hb2
  have hsaS := hsa1.below hb2
  have hz2 := hb2.size
  have hz1 := hb1.size
  obtain ⟨Wf, hWf⟩ : ∃ Wf, (w2.alloc (.cells #[.slice sa (spots t).length sc] 64)).alloc (.cells #[.slice wa (wordsS t).length wc] 26) = Wf := ⟨_, rfl⟩
  have hbs1 := (Box.new w2 64 #[.slice sa (spots t).length sc]).alloc (.cells #[.slice wa (wordsS t).length wc] 26)
  have hbw1 := Box.newAt (w2.alloc (.cells #[.slice sa (spots t).length sc] 64)) (w2.heap.size + 1) 26 #[.slice wa (wordsS t).length wc] (by simp)
  have hb23 : Below w2.heap.size w2 Wf := by
    rw [← hWf]
    exact ((Below.refl _ _).alloc (Nat.le_refl _) _).alloc (by simp) _
  have hqz : Wf.heap.size = w2.heap.size + 2 := by rw [← hWf]; simp
  rw [hWf] at hbs1 hbw1
  obtain ⟨q, hqW⟩ : ∃ q, Wf.heap.size = q := ⟨_, rfl⟩
  obtain ⟨bs, hbs⟩ : ∃ b, w2.heap.size = b := ⟨_, rfl⟩
  obtain ⟨bw, hbw⟩ : ∃ b, bs + 1 = b := ⟨_, rfl⟩
  have HT3 : Hid (TxSt q bw bs Wf t wa wc sa sc) := ⟨by rw [← hbw, ← hbs]; exact hbw1, hsa2.below hb23, by rw [← hbs]; exact hbs1, hsaS.below hb23, hcw, by omega, by omega, fun x hx => by have := hf2 x hx; omega, fun x hx => by have := hf1 x hx; omega⟩
  have hb03 := below_next hb02 hb23
  have HbF : Hid (∀ W, Below q Wf W → Below Wf.heap.size Wf W) := fun W h => by rw [hqW]; exact h
  have HTx : Hid (∀ W, Below q Wf W → TxSt q bw bs W t wa wc sa sc) := fun W h => HT3.out.kp (X := fun _ => False) (Kp.of_below (HbF.out W h)) (fun _ _ e => e)
  have hEf := hE.below hb03
  have hnF := hn.below hb03
  have hhF := hh.below hb03
  have hst0 : GvSt q (Wf.alloc (.cells #[.slice none 0 0] 34)) (.slice none 0 0) [] := by rw [← hqW]; exact ⟨Box.new _ _ _, Own.nil _ _ _⟩
  have hbq0 : Below q Wf (Wf.alloc (.cells #[.slice none 0 0] 34)) := (Below.refl _ _).alloc (by omega) _
  have HF := Lib.hid (fun v acc kind who la lc l W (hst : GvSt q W v acc) (ht : TxSt q bw bs W t wa wc sa sc) (hsa : SA W la l) hfar hne hll hal => findRf_any q bw bs t wa wc sa sc v acc kind who la lc l W hst ht hsa hfar hne hll (by omega) hal)
  have hbwq : bw < q := by omega
  have hbsq : bs < q := by omega
  have Hlsb : Hid (∀ x : Addr, sa = some x → x.block < q) := HT3.out.lsb
  clear hown1 hown2 hsa1 hsa2 hsaS hf1 hf2 hb1 hb2 hb02 hb23 hbs1 hbw1 HSp HWo hn hh hE
  have Hbs := Lib.hid hbs
  have Hbw := Lib.hid hbw
  have HWf := Lib.hid hWf
  have Hqz := Lib.hid hqz
  have HqW := Lib.hid hqW
  clear hbs hbw hWf hqz hqW
  go_upto_region 2 with (fail)
  rw [HWf.out, Hbs.out, Hbw.out]
  clear HWf
  go_wp2_with fail
  rw [HqW.out]
  generalize Wf.alloc (.cells #[.slice none 0 0] 34) = W0 at *
  clear hz1 hz2 Hbw Hbs Hqz HqW
  go_loopg [28] names.length (fun gk i wr => ∃ (k : Nat) (v : Value), i = .int .i64 k ∧ k ≤ names.length ∧ Hid (gk = names.length - k) ∧ GvSt q wr v (namesG t (names.take k)) ∧ Below q Wf wr)
  case atStart => exact ⟨0, _, rfl, by omega, rfl, by rw [List.take_zero]; exact hst0, hbq0⟩
  clear hst0 hbq0
  obtain ⟨k, v, rfl, hk, hgk, hst, hbq⟩ := hrel
  have hqr : q ≤ wr.heap.size := by have := hst.box.lt; omega
  by_cases hlt : k < names.length
  · obtain ⟨nb, no, hna, c0⟩ := (hnF.below (HbF.out _ hbq)).str hlt
    have hok := nameB_ok (Hnm.out _ (List.getElem_mem hlt))
    have Hsn := Lib.hid (namesG_snoc t hlt)
    have Hna := Lib.hid hna
    rw [hna]
    clear hna
    generalize names[k] = x at *
    have hal := namesG_len (t := t) (by omega) hnl k
    obtain ⟨A2, hA2⟩ : ∃ A2, namesG t (names.take (k + 1)) = A2 := ⟨_, rfl⟩
    rw [hA2] at Hsn
    have HA2 := Lib.hid hA2
    clear hA2
    generalize namesG t (names.take k) = A1 at *
    have HNg : Hid (nameG t x = addAll 1 x (findS t (wordsS x)) ++ if 1 < (wordsS x).length ∧ wordsS x ≠ initL (wordsS x) then addAll 2 x (findS t (initL (wordsS x))) else []) := rfl
    have hEr := hEf.below (HbF.out _ hbq)
    have HW := Lib.hid (wordsOfR_any x wr (by omega))
    have HI := Lib.hid (fun W (h : Below wr.heap.size wr W) => initialsOf_any x W (hEr.below h) (by omega) (by omega) (by omega))
    have hil1 : (initL (wordsS x)).length ≤ (wordsS x).length := Nat.le_of_eq (initL_length _)
    have hil2 : (wordsS x).length ≤ (initL (wordsS x)).length := Nat.le_of_eq (initL_length _).symm
    have HW2 : Hid (∀ W, Calls Tryz.prog 28 #[.string (joinB (initL (wordsS x)))] W (GivesOwn 9 (initL (wordsS x)) W)) := fun W => by
      have hne : wordsS x ≠ [] := fun e => by have := hok.2.1; rw [e] at this; simp at this
      have hz := joinB_size (f := initL (wordsS x)) (M := 60) (initL_size (fun y hy => by have := wordsS_size hy; omega))
      have hz2 := Nat.mul_le_mul (show (initL (wordsS x)).length ≤ 6 by omega) (Nat.le_refl (60 + 1))
      have := wordsOfR_any (joinB (initL (wordsS x))) W (by omega)
      rw [words_init hne] at this
      exact this
    generalize joinB (initL (wordsS x)) = jn at *
    generalize initL (wordsS x) = iw at *
    generalize nameG t x = ng at *
    generalize wordsS x = xw at *
    have hf1 := findS_len t xw
    have hf2 := findS_len t iw
    have hk1 : (0 : Int) ≤ (k : Int) := by omega
    have hk2 : (k : Int) < (names.length : Int) := by omega
    obtain ⟨hx1, hx2, hx3⟩ := hok
    go_wp2_with fail
    refine HW.out.mono ?_
    rintro e w6 ⟨v6, rfl, hown6, hb6⟩
    obtain ⟨a6, c6, rfl, hsa6, hf6, -⟩ := hown6.sa
    go_wp2_with fail
    refine (HI.out _ hb6).mono ?_
    rintro e w7 ⟨rfl, hb7⟩
    have hb67 := below_next hb6 hb7
    go_wp2_with fail
    refine (HW2.out _).mono ?_
    rintro e w8 ⟨v8, rfl, hown8, hb8⟩
    obtain ⟨a8, c8, rfl, hsa8, hf8, -⟩ := hown8.sa
    have hb68 := below_next hb67 hb8
    have hst8 := hst.below hb68
    have hbq8 := hbq.trans (hb68.mono hqr)
    have HF1 := Lib.hid (HF.out v A1 1 x a6 c6 xw w8 hst8 (HTx.out _ hbq8) ((hsa6.below hb7).below hb8) (made_far hst (Nat.le_refl _) hf6) (by omega) (by omega) (by omega))
    clear HW HI HW2
    go_wp2_with fail
    refine HF1.out.mono ?_
    rintro e w9 ⟨rfl, v9, hst9, hk9, hn9⟩
    have hbq9 := hst8.down hbq8 (Nat.le_refl _) hk9
    have hs6 : SA w9 a6 xw := made_kp ((hsa6.below hb7).below hb8) hst (Nat.le_refl _) hf6 hk9
    have hs8 : SA w9 a8 iw := made_kp hsa8 hst hb67.size hf8 hk9
    have hf8' := Lib.hid (fun W (h : GvSt q W v9 (A1 ++ addAll 1 x (findS t xw))) (hw : W.heap.size = w9.heap.size) => (show ∀ y : Addr, a8 = some y → y.block ≠ q ∧ v9.ownBlock ≠ some y.block from fun y hy => ⟨by have := (hf8 y hy).1; have := hb67.size; have := hst.box.lt; omega, fun e => by
      rcases hn9 _ e with h1 | h1
      · have := (hst.own.lt _ h1).2; have := (hf8 y hy).1; have := hb67.size; omega
      · have := (hf8 y hy).2; omega⟩))
    clear HF1 hown6 hown8 hst8 hbq8 hsa6 hsa8 hf6 hf8 hk9 hn9
    by_cases h1 : xw.length ≤ 1
    · have hd : decide ((1 : Int) < (xw.length : Int)) = false := decide_eq_false (by omega)
      have hstF : GvSt q w9 v9 A2 := by rw [Hsn.out, HNg.out, if_neg (by omega), List.append_nil]; exact hst9
      clear hst9
      rw [← Hna.out]
      go_wp2_with fail
      go_roundg (names.length - (k + 1))
      case measure => have := hgk.out; omega
      case rel => exact ⟨k + 1, _, by go_num, by omega, rfl, by rw [HA2.out]; exact hstF, hbq9⟩
    · have hd : decide ((1 : Int) < (xw.length : Int)) = true := decide_eq_true (by omega)
      have HEq := Lib.hid (equal_any xw iw a6 a8 c6 c8 w9 hs6 hs8 (by omega) (by omega))
      by_cases heq : xw = iw
      · have hstF : GvSt q w9 v9 A2 := by rw [Hsn.out, HNg.out, if_neg (fun h => h.2 heq), List.append_nil]; exact hst9
        rw [decide_eq_true heq] at HEq
        clear hst9 heq
        go_wp2_with fail
        refine HEq.out.mono ?_
        rintro e w10 ⟨rfl, nq, rfl⟩
        have hst10 := hstF.below (below_drewN (Below.refl _ _) nq)
        have hbq10 := below_drewN hbq9 nq
        rw [← Hna.out]
        go_wp2_with fail
        go_roundg (names.length - (k + 1))
        case measure => have := hgk.out; omega
        case rel => exact ⟨k + 1, _, by go_num, by omega, rfl, by rw [HA2.out]; exact hst10, hbq10⟩
      · have Hne := Lib.hid (show 1 < xw.length ∧ xw ≠ iw from ⟨by omega, heq⟩)
        rw [decide_eq_false heq] at HEq
        clear heq
        go_wp2_with fail
        refine HEq.out.mono ?_
        rintro e w10 ⟨rfl, nq, rfl⟩
        have hst10 := hst9.below (below_drewN (Below.refl _ _) nq)
        have hbq10 := below_drewN hbq9 nq
        have HF2 := Lib.hid (HF.out v9 (A1 ++ addAll 1 x (findS t xw)) 2 x a8 c8 iw _ hst10 (HTx.out _ hbq10) (hs8.drewN nq) (hf8'.out w9 hst9 rfl) (by omega) (by omega) (by rw [List.length_append, addAll_len]; omega))
        clear HEq hst9 hbq9 hs6 hs8
        go_wp2_with fail
        refine HF2.out.mono ?_
        rintro e w12 ⟨rfl, v12, hst12, hk12, hn12⟩
        have hbq12 := hst10.down hbq10 (Nat.le_refl _) hk12
        have hstF : GvSt q w12 v12 A2 := by rw [Hsn.out, HNg.out, if_pos Hne.out, ← List.append_assoc]; exact hst12
        clear hst12
        rw [← Hna.out]
        go_wp2_with fail
        go_roundg (names.length - (k + 1))
        case measure => have := hgk.out; omega
        case rel => exact ⟨k + 1, _, by go_num, by omega, rfl, by rw [HA2.out]; exact hstF, hbq12⟩
  · obtain rfl : k = names.length := by omega
    have hngl := namesG_len (t := t) (by omega) hnl names.length
    rw [List.take_length] at hst hngl
    generalize namesG t names = NG at *
    clear hgk hk hlt Hnm hnF
    go_wp2_with fail
    rename World => wo2
    go_loopg [57] homes.length (fun gk i wr => ∃ (k : Nat) (v : Value), i = .int .i64 k ∧ k ≤ homes.length ∧ Hid (gk = homes.length - k) ∧ GvSt q wr v (NG ++ homesG t (homes.take k)) ∧ Below q Wf wr)
    case atStart => exact ⟨0, _, rfl, by omega, rfl, by rw [List.take_zero]; exact (by rw [show homesG t [] = [] from rfl, List.append_nil]; exact hst), hbq⟩
    clear hst hbq
    obtain ⟨k, v, rfl, hk, hgk, hst, hbq⟩ := hrel
    have hqr : q ≤ wr.heap.size := by have := hst.box.lt; omega
    by_cases hlt : k < homes.length
    · obtain ⟨nb, no, hna, c0⟩ := (hhF.below (HbF.out _ hbq)).str hlt
      have hok := nameB_ok (Hhm.out _ (List.getElem_mem hlt))
      have Hsn : Hid (NG ++ homesG t (homes.take (k + 1)) = (NG ++ homesG t (homes.take k)) ++ homeG t homes[k]) := by show _ = _; rw [homesG_snoc t hlt, List.append_assoc]
      have Hna := Lib.hid hna
      rw [hna]
      clear hna
      generalize homes[k] = x at *
      have hal : (NG ++ homesG t (homes.take k)).length ≤ 42000000 := by have := homesG_len (t := t) hs hhl k; rw [List.length_append]; omega
      obtain ⟨A2, hA2⟩ : ∃ A2, NG ++ homesG t (homes.take (k + 1)) = A2 := ⟨_, rfl⟩
      rw [hA2] at Hsn
      have HA2 := Lib.hid hA2
      clear hA2
      generalize NG ++ homesG t (homes.take k) = A1 at *
      have HNg : Hid (homeG t x = addAll 3 x (findS t (wordsS x))) := rfl
      have HW := Lib.hid (fun W => wordsOfR_any x W (by omega))
      generalize homeG t x = ng at *
      generalize wordsS x = xw at *
      have hk1 : (0 : Int) ≤ (k : Int) := by omega
      have hk2 : (k : Int) < (homes.length : Int) := by omega
      obtain ⟨hx1, hx2, hx3⟩ := hok
      go_wp2_with fail
      refine (HW.out _).mono ?_
      rintro e w7 ⟨v6, rfl, hown6, hb6⟩
      obtain ⟨a6, c6, rfl, hsa6, hf6, -⟩ := hown6.sa
      have hst7 := hst.below hb6
      have hbq7 := hbq.trans (hb6.mono hqr)
      have HF1 := Lib.hid (HF.out v A1 3 x a6 c6 xw w7 hst7 (HTx.out _ hbq7) hsa6 (made_far hst (Nat.le_refl _) hf6) (by omega) (by omega) (by omega))
      clear HW
      go_wp2_with fail
      refine HF1.out.mono ?_
      rintro e w9 ⟨rfl, v9, hst9, hk9, hn9⟩
      have hbq9 := hst7.down hbq7 (Nat.le_refl _) hk9
      have hstF : GvSt q w9 v9 A2 := by rw [Hsn.out, HNg.out]; exact hst9
      clear hst9
      rw [← Hna.out]
      go_wp2_with fail
      go_roundg (homes.length - (k + 1))
      case measure => have := hgk.out; omega
      case rel => exact ⟨k + 1, _, by go_num, by omega, rfl, by rw [HA2.out]; exact hstF, hbq9⟩
    · obtain rfl : k = homes.length := by omega
      have hhgl := homesG_len (t := t) hs hhl homes.length
      rw [List.take_length] at hst hhgl
      generalize homesG t homes = HG at *
      obtain ⟨B0, hB0⟩ : ∃ B0, NG ++ HG = B0 := ⟨_, rfl⟩
      have hBl : B0.length ≤ 42000000 := by rw [← hB0, List.length_append]; omega
      rw [hB0] at hst Hall
      clear hgk hk hlt Hhm hhF HF hB0 hngl hhgl
      have hn : (wordsS t).length ≤ 20001 := by have := spots_len t; rw [wordsS_length]; omega
      have hlS : (wordsS t).length = (spots t).length := wordsS_length t
      have Hos := Lib.hid (oursTo_succ t)
      have Hol : Hid (∀ n, n ≤ (wordsS t).length → (oursTo t n).length ≤ 200000) := fun n h => by have := oursTo_len t n; omega
      have Hry0 := Lib.hid (fun i m (h : hitA t i (i + 1 + m) = true) => rowTo_yes h)
      have Hrn0 := Lib.hid (fun i m (h : hitA t i (i + 1 + m) = false) => rowTo_no h)
      have Hrl0 := Lib.hid (fun i => rowTo_len t i)
      have Hr00 : Hid (∀ i, rowTo t i 0 = []) := fun i => rfl
      have Ho0 : Hid (oursTo t 0 = []) := rfl
      have HitE0 : Hid (∀ i k, hitA t i k = (isOur (wdA t i) && (isLate (wdA t k) && !nlIn t (toA t i) (frA t k)))) := fun i k => rfl
      have Hwd : Hid (∀ i (hi : i < (wordsS t).length), (wordsS t)[i] = wdA t i) := fun i hi => by unfold wdA; rw [List.getD_eq_getElem?_getD, List.getElem?_eq_getElem hi]; rfl
      have Hbd : Hid (∀ i, i < (wordsS t).length → frA t i < toA t i ∧ toA t i ≤ t.size) := fun i hi => by rw [wordsS_length] at hi; exact spot_bd hi
      have Hri : Hid (∀ i k, i < k → k < (wordsS t).length → toA t i < frA t k) := fun i k h hk => by rw [wordsS_length] at hk; exact spots_rise h hk
      have Hre : Hid (∀ i, reach t i = min (wordsS t).length (i + 7) - (i + 1)) := fun i => rfl
      have HCo : Hid (∀ i (hi : i < (wordsS t).length) b W, Env W → Calls Tryz.prog 48 #[.string (t.extract (frA t i) b), .string ⟨#[10]⟩] W (fun e w' => e = .returned (.bool (nlIn t (toA t i) b)) ∧ W = w')) := fun i hi b W h => by
        rw [← nlIn_word (by rw [← wordsS_length]; exact hi)]
        exact containsS_any (t.extract (frA t i) b) ⟨#[10]⟩ W h (by rw [ByteArray.size_extract]; omega)
      have HC3 : Hid (∀ b W T x, Box W b T #[.string ⟨#[111, 117, 114]⟩, .string ⟨#[109, 121]⟩, .string ⟨#[119, 101]⟩] → Calls Tryz.prog 49 #[.slice (some ⟨b, 0, none⟩) 3 3, .string x] W (fun e w' => e = .returned (.bool (isOur x)) ∧ W = w')) := fun b W T x h => by
        rw [← our_any]
        exact contains_any [⟨#[111, 117, 114]⟩, ⟨#[109, 121]⟩, ⟨#[119, 101]⟩] _ 3 x W (Box.sa h _ rfl) (by simp)
      have HC4 : Hid (∀ b W T x, Box W b T #[.string ⟨#[112, 114, 101, 118, 105, 111, 117, 115]⟩, .string ⟨#[101, 97, 114, 108, 105, 101, 114]⟩, .string ⟨#[112, 114, 105, 111, 114]⟩, .string ⟨#[114, 101, 99, 101, 110, 116]⟩] → Calls Tryz.prog 49 #[.slice (some ⟨b, 0, none⟩) 4 4, .string x] W (fun e w' => e = .returned (.bool (isLate x)) ∧ W = w')) := fun b W T x h => by
        rw [← late_any]
        exact contains_any [⟨#[112, 114, 101, 118, 105, 111, 117, 115]⟩, ⟨#[101, 97, 114, 108, 105, 101, 114]⟩, ⟨#[112, 114, 105, 111, 114]⟩, ⟨#[114, 101, 99, 101, 110, 116]⟩] _ 4 x W (Box.sa h _ rfl) (by simp)
      have Hfin : Hid (oursS t = oursTo t (wordsS t).length) := rfl
      have HTw := Lib.hid (fun W (h : TxSt q bw bs W t wa wc sa sc) => (show W.cell? ⟨bw, 0, none⟩ = some (.slice wa (wordsS t).length wc) from h.wbox.cell 0))
      have HTs := Lib.hid (fun W (h : TxSt q bw bs W t wa wc sa sc) => (show W.cell? ⟨bs, 0, none⟩ = some (.slice sa (wordsS t).length sc) by have := h.sbox.cell 0; rw [← hlS] at this; exact this))
      have Hsp := Lib.hid (fun W (h : TxSt q bw bs W t wa wc sa sc) i (hi : i < (wordsS t).length) => h.spot hi)
      have Hstr : Hid (∀ W, TxSt q bw bs W t wa wc sa sc → ∀ i, i < (wordsS t).length → ∃ b o, wa = some ⟨b, o, none⟩ ∧ W.cell? ⟨b, o + i, none⟩ = some (.string (wdA t i))) := fun W h i hi => by
        obtain ⟨b, o, he, hc⟩ := h.words.str hi
        rw [Hwd.out i hi] at hc
        exact ⟨b, o, he, hc⟩
      generalize oursS t = res at *
      generalize wdA t = wd at *
      generalize wordsS t = ws at *
      generalize oursTo t = oT at *
      generalize rowTo t = rT at *
      generalize hitA t = hT at *
      generalize nlIn t = nl at *
      generalize frA t = fr at *
      generalize toA t = tt at *
      generalize reach t = rc at *
      clear hlS Hwd
      have d0 := HTw.out _ (HTx.out _ hbq)
      go_wp2_with fail
      rename World => wo3
      go_loopg [69] ws.length (fun gk i wr => ∃ (k : Nat) (v : Value), i = .int .i64 k ∧ k ≤ ws.length ∧ Hid (gk = ws.length - k) ∧ GvSt q wr v (B0 ++ addAll 4 ⟨#[]⟩ (oT k)) ∧ Below q Wf wr)
      case atStart => exact ⟨0, _, rfl, by omega, rfl, by rw [Ho0.out]; exact (by rw [show addAll 4 (⟨#[]⟩ : ByteArray) [] = [] from rfl, List.append_nil]; exact hst), hbq⟩
      clear hst hbq
      obtain ⟨i, v, rfl, hi, hgi, hst, hbq⟩ := hrel
      by_cases hlt : i < ws.length
      · obtain ⟨wb, wo, hwa, c0⟩ := Hstr.out _ (HTx.out _ hbq) i hlt
        have Hwa := Lib.hid hwa
        rw [hwa]
        clear hwa
        have Hos2 := Lib.hid (Hos.out i)
        obtain ⟨i1, hi1e⟩ : ∃ n, i + 1 = n := ⟨_, rfl⟩
        obtain ⟨i6, hi6e⟩ : ∃ n, i + 6 = n := ⟨_, rfl⟩
        have hw1 : IntKind.i64.wrap ((i : Int) + 1) = (i1 : Int) := by rw [IntWalk.i64_in _ (by omega)]; omega
        have hw6 : IntKind.i64.wrap ((i : Int) + 6) = (i6 : Int) := by rw [IntWalk.i64_in _ (by omega)]; omega
        obtain ⟨R, hR⟩ : ∃ R, rc i = R := ⟨_, rfl⟩
        have HR : Hid (R = min ws.length (i + 7) - (i + 1)) := by show _ = _; rw [← hR]; exact Hre.out i
        have Hry0 := Lib.hid (fun q h => Hry0.out i q h)
        have Hrn0 := Lib.hid (fun q h => Hrn0.out i q h)
        have Hrl := Lib.hid (Hrl0.out i)
        have Hr0 := Lib.hid (Hr00.out i)
        rw [hi1e] at Hry0 Hrn0
        rw [hR] at Hos2
        have Hi1 := Lib.hid hi1e
        have Hi6 := Lib.hid hi6e
        have hi0 : (0 : Int) ≤ (i : Int) := by omega
        have hi2 : (i : Int) < (ws.length : Int) := by omega
        clear hi1e hi6e hR
        go_wp2_with fail
        go_loopg [19] R (fun gm j wr => ∃ (m k : Nat) (v : Value), j = .int .i64 k ∧ Hid (k = i1 + m) ∧ m ≤ R ∧ Hid (gm = R - m) ∧ GvSt q wr v (B0 ++ addAll 4 ⟨#[]⟩ (oT i ++ rT i m)) ∧ Below q Wf wr)
        case atStart => exact ⟨0, i1, _, rfl, rfl, by omega, rfl, by rw [Hr0.out, List.append_nil]; exact hst, hbq⟩
        clear hst hbq c0
        obtain ⟨m, k, v, rfl, Hk, hm, hgm, hst, hbq⟩ := hrel
        by_cases hmR : m < R
        · have hkn : k < ws.length := by have := Hk.out; have := HR.out; have := Hi1.out; omega
          have htr := HTx.out _ hbq
          have d0 := HTw.out _ htr
          rw [Hwa.out] at d0
          have d1 := HTs.out _ htr
          obtain ⟨sb, so, hsa0, f0, -⟩ := Hsp.out _ htr i hlt
          obtain ⟨sb2, so2, hsa2, g0, -⟩ := Hsp.out _ htr k hkn
          rw [hsa0] at hsa2
          cases hsa2
          rw [hsa0] at d1
          have Hsa0 := Lib.hid hsa0
          clear hsa0
          have hbi := Hbd.out i hlt
          have hbk := Hbd.out k hkn
          have hri := Hri.out i k (by have := Hk.out; have := Hi1.out; omega) hkn
          have hle : (k : Int) ≤ (i6 : Int) := by have := Hk.out; have := HR.out; have := Hi1.out; have := Hi6.out; omega
          have hlt2 : (k : Int) < (ws.length : Int) := by omega
          have hd1 : decide ((k : Int) ≤ (i6 : Int)) = true := decide_eq_true hle
          have hd2 : decide ((k : Int) < (ws.length : Int)) = true := decide_eq_true hlt2
          have hk1 : (0 : Int) ≤ (k : Int) := by omega
          have hs1 : (fr i : Int) ≤ (fr k : Int) := by omega
          have hs2 : (fr k : Int) ≤ (t.size : Int) := by omega
          have hs3 : (0 : Int) ≤ (fr i : Int) := by omega
          have HCl := Lib.hid (fun W (h : Env W) => HCo.out i hlt (fr k) W h)
          have HitE : Hid (hT i (i1 + m) = (isOur (wd i) && (isLate (wd k) && !nl (tt i) (fr k)))) := by show _ = _; rw [← Hk.out]; exact HitE0.out i k
          have Hry := Lib.hid (fun h => Hry0.out m h)
          have Hrn := Lib.hid (fun h => Hrn0.out m h)
          have hrl := Hrl.out m
          have Hbox3 := Lib.hid (fun b W T (h : Box W b T #[.string ⟨#[111, 117, 114]⟩, .string ⟨#[109, 121]⟩, .string ⟨#[119, 101]⟩]) => HC3.out b W T (wd i) h)
          have Hbox4 := Lib.hid (fun b W T (h : Box W b T #[.string ⟨#[112, 114, 101, 118, 105, 111, 117, 115]⟩, .string ⟨#[101, 97, 114, 108, 105, 101, 114]⟩, .string ⟨#[112, 114, 105, 111, 114]⟩, .string ⟨#[114, 101, 99, 101, 110, 116]⟩]) => HC4.out b W T (wd k) h)
          generalize isOur (wd i) = u at *
          generalize isLate (wd k) = lt at *
          generalize nl (tt i) (fr k) = line at *
          have hst1 := hst
          have hbq1 := hbq
          go_upto_region 24 with (fail)
          refine wp_region_held_drew (S := (fun wx => wx.cell? ⟨bs, 0, none⟩ = some (.slice (some ⟨sb, so, none⟩) ws.length sc) ∧ wx.cell? ⟨sb, so + i * 2, none⟩ = some (.int .i64 (fr i : Int)) ∧ wx.cell? ⟨sb, so + k * 2, none⟩ = some (.int .i64 (fr k : Int)) ∧ GvSt q wx v (B0 ++ addAll 4 ⟨#[]⟩ (oT i ++ rT i m)) ∧ Below q Wf wx)) (by kernel_rfl) ?hS (fun hHeld => ?_)
          case hS => exact ⟨d1, f0, g0, hst.below ((Below.refl _ _).drew), hbq.drew⟩
          refine rtake (i := 0) (d := (some 88)) (v := ?_) rfl (by kernel_rfl) (by kernel_rfl) (by kernel_rfl) (by kernel_rfl) (fun _ _ _ h => h) (by kernel_rfl) (by assumption) ?_ ?_
          rotate_left 1
          · (intro wI hSI; (try dsimp only at hSI); go_simp; (try with_reducible rfl))
          simp only [Act.put, List.setIfInBounds_toArray, List.set_cons_zero, List.set_cons_succ]
          refine rtake (i := 1) (d := (some 89)) (v := ?_) rfl (by kernel_rfl) (by kernel_rfl) (by kernel_rfl) (by kernel_rfl) (fun _ _ _ h => h) (by kernel_rfl) (by assumption) ?_ ?_
          rotate_left 1
          · (intro wI hSI; (try dsimp only at hSI); go_simp; (try with_reducible rfl))
          simp only [Act.put, List.setIfInBounds_toArray, List.set_cons_zero, List.set_cons_succ]
          refine rtake (i := 2) (d := (some 90)) (v := ?_) rfl (by kernel_rfl) (by kernel_rfl) (by kernel_rfl) (by kernel_rfl) (fun _ _ _ h => h) (by kernel_rfl) (by assumption) ?_ ?_
          rotate_left 1
          · (intro wI hSI; (try dsimp only at hSI); go_simp; (try with_reducible rfl))
          simp only [Act.put, List.setIfInBounds_toArray, List.set_cons_zero, List.set_cons_succ]
          refine rtake (i := 3) (d := (some 91)) (v := ?_) rfl (by kernel_rfl) (by kernel_rfl) (by kernel_rfl) (by kernel_rfl) (fun _ _ _ h => h) (by kernel_rfl) (by assumption) ?_ ?_
          rotate_left 1
          · (intro wI hSI; (try dsimp only at hSI); go_simp; (try with_reducible rfl))
          simp only [Act.put, List.setIfInBounds_toArray, List.set_cons_zero, List.set_cons_succ]
          refine rtake (i := 4) (d := (some 92)) (v := ?_) rfl (by kernel_rfl) (by kernel_rfl) (by kernel_rfl) (by kernel_rfl) (fun _ _ _ h => h) (by kernel_rfl) (by assumption) ?_ ?_
          rotate_left 1
          · (intro wI hSI; (try dsimp only at hSI); go_simp; (try with_reducible rfl))
          simp only [Act.put, List.setIfInBounds_toArray, List.set_cons_zero, List.set_cons_succ]
          refine rtake (i := 5) (d := (some 93)) (v := ?_) rfl (by kernel_rfl) (by kernel_rfl) (by kernel_rfl) (by kernel_rfl) (fun _ _ _ h => h) (by kernel_rfl) (by assumption) ?_ ?_
          rotate_left 1
          · (intro wI hSI; (try dsimp only at hSI); go_simp; (try with_reducible rfl))
          simp only [Act.put, List.setIfInBounds_toArray, List.set_cons_zero, List.set_cons_succ]
          refine rtake (i := 6) (d := (some 94)) (v := ?_) rfl (by kernel_rfl) (by kernel_rfl) (by kernel_rfl) (by kernel_rfl) (fun _ _ _ h => h) (by kernel_rfl) (by assumption) ?_ ?_
          rotate_left 1
          · (intro wI hSI; (try dsimp only at hSI); go_simp; (try with_reducible rfl))
          simp only [Act.put, List.setIfInBounds_toArray, List.set_cons_zero, List.set_cons_succ]
          refine rtake (i := 7) (d := (some 95)) (v := ?_) rfl (by kernel_rfl) (by kernel_rfl) (by kernel_rfl) (by kernel_rfl) (fun _ _ _ h => h) (by kernel_rfl) (by assumption) ?_ ?_
          rotate_left 1
          · (intro wI hSI; (try dsimp only at hSI); go_simp; (try with_reducible rfl))
          simp only [Act.put, List.setIfInBounds_toArray, List.set_cons_zero, List.set_cons_succ]
          refine rtake (i := 8) (d := (some 96)) (v := ?_) rfl (by kernel_rfl) (by kernel_rfl) (by kernel_rfl) (by kernel_rfl) (fun _ _ _ h => h) (by kernel_rfl) (by assumption) ?_ ?_
          rotate_left 1
          · (intro wI hSI; (try dsimp only at hSI); go_simp; (try with_reducible rfl))
          simp only [Act.put, List.setIfInBounds_toArray, List.set_cons_zero, List.set_cons_succ]
          refine rtake (i := 9) (d := (some 97)) (v := ?_) rfl (by kernel_rfl) (by kernel_rfl) (by kernel_rfl) (by kernel_rfl) (fun _ _ _ h => h) (by kernel_rfl) (by assumption) ?_ ?_
          rotate_left 1
          · (intro wI hSI; (try dsimp only at hSI); go_simp; (try with_reducible rfl))
          simp only [Act.put, List.setIfInBounds_toArray, List.set_cons_zero, List.set_cons_succ]
          refine rtake (i := 10) (d := (some 98)) (v := ?_) rfl (by kernel_rfl) (by kernel_rfl) (by kernel_rfl) (by kernel_rfl) (fun _ _ _ h => h) (by kernel_rfl) (by assumption) ?_ ?_
          rotate_left 1
          · (intro wI hSI; (try dsimp only at hSI); go_simp; (try with_reducible rfl))
          simp only [Act.put, List.setIfInBounds_toArray, List.set_cons_zero, List.set_cons_succ]
          refine rtake (i := 11) (d := (some 99)) (v := ?_) rfl (by kernel_rfl) (by kernel_rfl) (by kernel_rfl) (by kernel_rfl) (fun _ _ _ h => h) (by kernel_rfl) (by assumption) ?_ ?_
          rotate_left 1
          · (intro wI hSI; (try dsimp only at hSI); go_simp; (try with_reducible rfl))
          simp only [Act.put, List.setIfInBounds_toArray, List.set_cons_zero, List.set_cons_succ]
          refine rcall (i := 12) (d := (some 100)) (by kernel_rfl) rfl (by kernel_rfl) (fun K hK => ?_)
          go_simp
          go_at_call 48; refine (HCl.out _ (hEf.below (HbF.out _ hHeld.2.2.2.2))).mono ?_; rintro e w' ⟨rfl, hw'⟩; subst hw'
          refine hK.out _ _ ?hS (fun hHeld => ?_)
          case hS => exact hHeld
          clear hK K
          simp only [Act.put, List.setIfInBounds_toArray, List.set_cons_zero, List.set_cons_succ]
          refine rtake (i := 13) (d := (some 20)) (v := ?_) rfl (by kernel_rfl) (by kernel_rfl) (by kernel_rfl) (by kernel_rfl) (fun _ _ _ h => h) (by kernel_rfl) (by assumption) ?_ ?_
          rotate_left 1
          · (intro wI hSI; (try dsimp only at hSI); go_simp; (try with_reducible rfl))
          simp only [Act.put, List.setIfInBounds_toArray, List.set_cons_zero, List.set_cons_succ]
          refine wpAnyH_done (by kernel_rfl) ?_ _
          obtain ⟨-, -, -, hst2, hbq2⟩ := hHeld
          generalize World.drew wr = w2 at *
          clear d0 d1 f0 g0 htr hst1 hbq1 hst hbq HCl
          cases u
          · have Hn2 := Lib.hid (Hrn.out (by rw [HitE.out]; rfl))
            go_wp2_with fail
            refine (Hbox3.out _ _ _ (Box.new _ _ _)).mono ?_
            rintro e w3 ⟨rfl, hw3⟩
            subst hw3
            have hst3 := hst2.below ((Below.refl _ _).alloc (Nat.le_refl _) (.cells #[.string ⟨#[111, 117, 114]⟩, .string ⟨#[109, 121]⟩, .string ⟨#[119, 101]⟩] 9))
            have hbq3 := hbq2.alloc (by have := hst2.box.lt; omega) (.cells #[.string ⟨#[111, 117, 114]⟩, .string ⟨#[109, 121]⟩, .string ⟨#[119, 101]⟩] 9)
            go_wp2_with fail
            go_roundg (R - (m + 1))
            case measure => have := hgm.out; omega
            case rel => exact ⟨m + 1, k + 1, _, by go_num, by show _ = _; have := Hk.out; omega, by omega, rfl, by rw [Hn2.out]; exact hst3, hbq3⟩
          · go_wp2_with fail
            refine (Hbox3.out _ _ _ (Box.new _ _ _)).mono ?_
            rintro e w3 ⟨rfl, hw3⟩
            have hst3 := hst2.below ((Below.refl _ _).alloc (Nat.le_refl _) (.cells #[.string ⟨#[111, 117, 114]⟩, .string ⟨#[109, 121]⟩, .string ⟨#[119, 101]⟩] 9))
            have hbq3 := hbq2.alloc (by have := hst2.box.lt; omega) (.cells #[.string ⟨#[111, 117, 114]⟩, .string ⟨#[109, 121]⟩, .string ⟨#[119, 101]⟩] 9)
            rw [hw3] at hst3 hbq3
            clear hw3
            have hst4 := hst3.below ((Below.refl _ _).alloc (Nat.le_refl _) (.cells #[.string ⟨#[112, 114, 101, 118, 105, 111, 117, 115]⟩, .string ⟨#[101, 97, 114, 108, 105, 101, 114]⟩, .string ⟨#[112, 114, 105, 111, 114]⟩, .string ⟨#[114, 101, 99, 101, 110, 116]⟩] 9))
            have hbq4 := hbq3.alloc (by have := hst3.box.lt; omega) (.cells #[.string ⟨#[112, 114, 101, 118, 105, 111, 117, 115]⟩, .string ⟨#[101, 97, 114, 108, 105, 101, 114]⟩, .string ⟨#[112, 114, 105, 111, 114]⟩, .string ⟨#[114, 101, 99, 101, 110, 116]⟩] 9)
            have ht4 := HTx.out _ hbq4
            have e0 := HTw.out _ ht4
            rw [Hwa.out] at e0
            obtain ⟨wb2, wo2, hwa2, e1⟩ := Hstr.out _ ht4 k hkn
            rw [Hwa.out] at hwa2
            cases hwa2
            clear ht4 hst2 hbq2
            cases lt
            · have Hn2 := Lib.hid (Hrn.out (by rw [HitE.out]; rfl))
              go_wp2_with fail
              refine (Hbox4.out _ _ _ (Box.new _ _ _)).mono ?_
              rintro e w5 ⟨rfl, hw5⟩
              subst hw5
              go_wp2_with fail
              go_roundg (R - (m + 1))
              case measure => have := hgm.out; omega
              case rel => exact ⟨m + 1, k + 1, _, by go_num, by show _ = _; have := Hk.out; omega, by omega, rfl, by rw [Hn2.out]; exact hst4, hbq4⟩
            · cases line
              · go_wp2_with fail
                refine (Hbox4.out _ _ _ (Box.new _ _ _)).mono ?_
                rintro e w5 ⟨rfl, hw5⟩
                rw [hw5] at hst4 hbq4
                clear hw5 e0 e1 hst3 hbq3
                rename World => w4
                have Hn2 := Lib.hid (Hry.out (by rw [HitE.out]; rfl))
                obtain ⟨A2, hA2⟩ : ∃ A2, B0 ++ addAll 4 ⟨#[]⟩ (oT i ++ rT i (m + 1)) = A2 := ⟨_, rfl⟩
                have HA2 := Lib.hid hA2
                have HA3 : Hid ((B0 ++ addAll 4 ⟨#[]⟩ (oT i ++ rT i m)) ++ [(4, (fr i : Int), (tt k : Int), ⟨#[]⟩)] = A2) := by
                  show _ = _
                  rw [← hA2, Hn2.out, ← Hk.out]
                  unfold addAll
                  rw [← List.append_assoc (oT i), List.map_append (l₁ := oT i ++ rT i m), List.append_assoc]
                  rfl
                have hal : (B0 ++ addAll 4 ⟨#[]⟩ (oT i ++ rT i m)).length ≤ 50000000 := by rw [List.length_append, addAll_len, List.length_append]; have := Hol.out i (by omega); have := HR.out; omega
                clear hA2
                generalize B0 ++ addAll 4 ⟨#[]⟩ (oT i ++ rT i m) = A1 at *
                have ht4 := HTx.out _ hbq4
                obtain ⟨sb9, so9, hs9, f0, -⟩ := Hsp.out _ ht4 i hlt
                obtain ⟨sb2, so2, hs2', -, g1⟩ := Hsp.out _ ht4 k hkn
                rw [Hsa0.out] at hs9 hs2'
                cases hs9
                cases hs2'
                have hsbq := Hlsb.out _ Hsa0.out
                have hbs := HTs.out _ ht4
                rw [Hsa0.out] at hbs
                have hqc : w4.cell? ⟨q, 0, none⟩ = some v := by have := hst4.box.cell 0; simpa using this
                have Hol4 := Lib.hid hst4.own.lt
                have hnot : ∀ b, b ≤ q → ¬ v.ownBlock = some b := fun b hb e => by have := (Hol4.out _ e).1; omega
                have hn0 := hnot q (Nat.le_refl _)
                have hn1 := hnot bs (by omega)
                have hn2 := hnot sb (by simp at hsbq; omega)
                have HS : Hid (∀ wx, Kp (fun b => v.ownBlock = some b) w4 wx → (wx.cell? ⟨q, 0, none⟩ = some v ∧ wx.cell? ⟨bs, 0, none⟩ = some (.slice (some ⟨sb, so, none⟩) ws.length sc) ∧ wx.cell? ⟨sb, so + i * 2, none⟩ = some (.int .i64 (fr i : Int)) ∧ wx.cell? ⟨sb, so + k * 2 + 1, none⟩ = some (.int .i64 (tt k : Int)))) := fun wx h => ⟨cellKp h hn0 hqc, cellKp h hn1 hbs, cellKp h hn2 f0, cellKp h hn2 g1⟩
                have hown1 := hst4.own.drew.alloc (.cells #[.int .i64 4, .int .i64 (fr i : Int), .int .i64 (tt k : Int), .string ⟨#[]⟩] 42)
                have hbx2 := hst4.box.drew.alloc (.cells #[.int .i64 4, .int .i64 (fr i : Int), .int .i64 (tt k : Int), .string ⟨#[]⟩] 42)
                have hkA := (Kp.refl (fun b => v.ownBlock = some b) w4).drew.alloc (.cells #[.int .i64 4, .int .i64 (fr i : Int), .int .i64 (tt k : Int), .string ⟨#[]⟩] 42)
                have hq0 : q < w4.heap.size := hst4.box.lt
                clear ht4 hqc hbs f0 g1
                go_upto_region 26 with (fail)
                refine wp_regionF (S := (fun wx => wx.cell? ⟨q, 0, none⟩ = some v ∧ wx.cell? ⟨bs, 0, none⟩ = some (.slice (some ⟨sb, so, none⟩) ws.length sc) ∧ wx.cell? ⟨sb, so + i * 2, none⟩ = some (.int .i64 (fr i : Int)) ∧ wx.cell? ⟨sb, so + k * 2 + 1, none⟩ = some (.int .i64 (tt k : Int)))) 15 (by kernel_rfl) ?hS (fun hHeld => ?_)
                case hS => exact HS.out _ (Kp.refl _ _).drew
                refine rtakeF (i := 0) (d := (some 116)) (v := ?_) (n := 40) rfl (by kernel_rfl) (by kernel_rfl) (by kernel_rfl) (by kernel_rfl) (by kernel_rfl) (by kernel_rfl) (fun _ _ _ h => h) (by kernel_rfl) (by assumption) ?_ ?_
                rotate_left 1
                · (intro wI hSI; (try dsimp only at hSI); go_simp; (try with_reducible rfl))
                simp only [Act.put, List.setIfInBounds_toArray, List.set_cons_zero, List.set_cons_succ]
                refine rtakeF (i := 1) (d := (some 117)) (v := ?_) (n := 40) rfl (by kernel_rfl) (by kernel_rfl) (by kernel_rfl) (by kernel_rfl) (by kernel_rfl) (by kernel_rfl) (fun _ _ _ h => h) (by kernel_rfl) (by assumption) ?_ ?_
                rotate_left 1
                · (intro wI hSI; (try dsimp only at hSI); go_simp; (try with_reducible rfl))
                simp only [Act.put, List.setIfInBounds_toArray, List.set_cons_zero, List.set_cons_succ]
                refine rtakeF (i := 2) (d := (some 118)) (v := ?_) (n := 40) rfl (by kernel_rfl) (by kernel_rfl) (by kernel_rfl) (by kernel_rfl) (by kernel_rfl) (by kernel_rfl) (fun _ _ _ h => h) (by kernel_rfl) (by assumption) ?_ ?_
                rotate_left 1
                · (intro wI hSI; (try dsimp only at hSI); go_simp; (try with_reducible rfl))
                simp only [Act.put, List.setIfInBounds_toArray, List.set_cons_zero, List.set_cons_succ]
                refine rtakeF (i := 3) (d := (some 119)) (v := ?_) (n := 40) rfl (by kernel_rfl) (by kernel_rfl) (by kernel_rfl) (by kernel_rfl) (by kernel_rfl) (by kernel_rfl) (fun _ _ _ h => h) (by kernel_rfl) (by assumption) ?_ ?_
                rotate_left 1
                · (intro wI hSI; (try dsimp only at hSI); go_simp; (try with_reducible rfl))
                simp only [Act.put, List.setIfInBounds_toArray, List.set_cons_zero, List.set_cons_succ]
                refine rtakeF (i := 4) (d := (some 120)) (v := ?_) (n := 40) rfl (by kernel_rfl) (by kernel_rfl) (by kernel_rfl) (by kernel_rfl) (by kernel_rfl) (by kernel_rfl) (fun _ _ _ h => h) (by kernel_rfl) (by assumption) ?_ ?_
                rotate_left 1
                · (intro wI hSI; (try dsimp only at hSI); go_simp; (try with_reducible rfl))
                simp only [Act.put, List.setIfInBounds_toArray, List.set_cons_zero, List.set_cons_succ]
                refine rtakeF (i := 5) (d := (some 121)) (v := ?_) (n := 40) rfl (by kernel_rfl) (by kernel_rfl) (by kernel_rfl) (by kernel_rfl) (by kernel_rfl) (by kernel_rfl) (fun _ _ _ h => h) (by kernel_rfl) (by assumption) ?_ ?_
                rotate_left 1
                · (intro wI hSI; (try dsimp only at hSI); go_simp; (try with_reducible rfl))
                simp only [Act.put, List.setIfInBounds_toArray, List.set_cons_zero, List.set_cons_succ]
                refine rtakeF (i := 6) (d := (some 122)) (v := ?_) (n := 40) rfl (by kernel_rfl) (by kernel_rfl) (by kernel_rfl) (by kernel_rfl) (by kernel_rfl) (by kernel_rfl) (fun _ _ _ h => h) (by kernel_rfl) (by assumption) ?_ ?_
                rotate_left 1
                · (intro wI hSI; (try dsimp only at hSI); go_simp; (try with_reducible rfl))
                simp only [Act.put, List.setIfInBounds_toArray, List.set_cons_zero, List.set_cons_succ]
                refine rtakeF (i := 7) (d := (some 123)) (v := ?_) (n := 40) rfl (by kernel_rfl) (by kernel_rfl) (by kernel_rfl) (by kernel_rfl) (by kernel_rfl) (by kernel_rfl) (fun _ _ _ h => h) (by kernel_rfl) (by assumption) ?_ ?_
                rotate_left 1
                · (intro wI hSI; (try dsimp only at hSI); go_simp; (try with_reducible rfl))
                simp only [Act.put, List.setIfInBounds_toArray, List.set_cons_zero, List.set_cons_succ]
                refine rtakeF (i := 8) (d := (some 124)) (v := ?_) (n := 40) rfl (by kernel_rfl) (by kernel_rfl) (by kernel_rfl) (by kernel_rfl) (by kernel_rfl) (by kernel_rfl) (fun _ _ _ h => h) (by kernel_rfl) (by assumption) ?_ ?_
                rotate_left 1
                · (intro wI hSI; (try dsimp only at hSI); go_simp; (try with_reducible rfl))
                simp only [Act.put, List.setIfInBounds_toArray, List.set_cons_zero, List.set_cons_succ]
                refine rtakeF (i := 9) (d := (some 125)) (v := ?_) (n := 40) rfl (by kernel_rfl) (by kernel_rfl) (by kernel_rfl) (by kernel_rfl) (by kernel_rfl) (by kernel_rfl) (fun _ _ _ h => h) (by kernel_rfl) (by assumption) ?_ ?_
                rotate_left 1
                · (intro wI hSI; (try dsimp only at hSI); go_simp; (try with_reducible rfl))
                simp only [Act.put, List.setIfInBounds_toArray, List.set_cons_zero, List.set_cons_succ]
                refine rtakeF (i := 10) (d := (some 126)) (v := ?_) (n := 40) rfl (by kernel_rfl) (by kernel_rfl) (by kernel_rfl) (by kernel_rfl) (by kernel_rfl) (by kernel_rfl) (fun _ _ _ h => h) (by kernel_rfl) (by assumption) ?_ ?_
                rotate_left 1
                · (intro wI hSI; (try dsimp only at hSI); go_simp; (try with_reducible rfl))
                simp only [Act.put, List.setIfInBounds_toArray, List.set_cons_zero, List.set_cons_succ]
                refine rtakeF (i := 11) (d := (some 127)) (v := ?_) (n := 40) rfl (by kernel_rfl) (by kernel_rfl) (by kernel_rfl) (by kernel_rfl) (by kernel_rfl) (by kernel_rfl) (fun _ _ _ h => h) (by kernel_rfl) (by assumption) ?_ ?_
                rotate_left 1
                · (intro wI hSI; (try dsimp only at hSI); go_simp; (try with_reducible rfl))
                simp only [Act.put, List.setIfInBounds_toArray, List.set_cons_zero, List.set_cons_succ]
                refine rtakeF (i := 12) (d := (some 128)) (v := ?_) (n := 40) rfl (by kernel_rfl) (by kernel_rfl) (by kernel_rfl) (by kernel_rfl) (by kernel_rfl) (by kernel_rfl) (fun _ _ _ h => h) (by kernel_rfl) (by assumption) ?_ ?_
                rotate_left 1
                · (intro wI hSI; (try dsimp only at hSI); go_simp; (try with_reducible rfl))
                simp only [Act.put, List.setIfInBounds_toArray, List.set_cons_zero, List.set_cons_succ]
                refine rcallF (i := 13) (d := (some 129)) (by kernel_rfl) rfl (by kernel_rfl) (fun K hK => ?_)
                go_simp
                refine hK.out _ _ (.inr ?hS) (fun hHeld0 => ?_)
                case hS => exact HS.out _ hkA
                clear hK K
                have hHeld := hHeld0.resolve_left (by decide)
                simp only [Act.put, List.setIfInBounds_toArray, List.set_cons_zero, List.set_cons_succ]
                refine rcallF (i := 14) (d := (some 130)) (by kernel_rfl) rfl (by kernel_rfl) (fun K hK => ?_)
                refine step_append_lie (by rfl) _ _ 34 (by rfl) 42 40 (.agg #[.int .i64 0, .int .i64 0, .int .i64 0, .string ⟨#[]⟩]) Tryz.underlying34 Tryz.infoGv (by rfl) v A1 (by rfl) hown1 (4, (fr i : Int), (tt k : Int), ⟨#[]⟩) _ (by rfl) (Box.new _ _ _) (by omega) (by omega) (by simp; omega) ?_; intro g9 cap9 w9 hown9 hg9 hat9; have hkB := hkA.grown hg9 (fun j hj => .inl hj)
                refine hK.out _ _ (.inr ?hS) (fun hHeld0 => ?_)
                case hS => exact HS.out _ hkB
                clear hK K
                have hHeld := hHeld0.resolve_left (by decide)
                simp only [Act.put, List.setIfInBounds_toArray, List.set_cons_zero, List.set_cons_succ]
                have hq9 := hbx2.kp ((Kp.refl (fun b => v.ownBlock = some b) _).grown hg9 (fun j hj => .inl hj)) hn0
                have hfr9 := hq9.frozen 0
                have hc9 := hq9.cell 0
                have hk9 : Kp (GvX q v) w4 w9 := hkB.mono (fun j hj => .inl (.inr hj))
                simp at hc9
                refine rcallF (i := 15) (d := none) (by kernel_rfl) rfl (by kernel_rfl) (fun K hK => ?_)
                go_simp
                refine hK.out undef _ (.inl rfl) (fun _ => ?_)
                clear hK K
                simp only [Act.put, List.setIfInBounds_toArray, List.set_cons_zero, List.set_cons_succ]
                refine wpAnyF_done (by kernel_rfl) ?_ _
                have hk10 := hk9.setCell (p := ⟨q, 0, none⟩) (.inl (.inl rfl)) (.slice (some ⟨g9, 0, none⟩) (A1.length + 1) cap9)
                have hown10 := hown9.kp ((Kp.refl (fun b => b = q) w9).setCell (p := ⟨q, 0, none⟩) (.inl rfl) (.slice (some ⟨g9, 0, none⟩) (A1.length + 1) cap9)) (fun j hj e => by have := (hown9.lt j hj).1; omega)
                have hq10 := hq9.set 0 (.slice (some ⟨g9, 0, none⟩) (A1.length + 1) cap9)
                rw [HA3.out] at hown10
                have hbq10 := hst4.down hbq4 (Nat.le_refl _) hk10
                clear hHeld hst4 hbq4
                go_wp2_with fail
                go_roundg (R - (m + 1))
                case measure => have := hgm.out; omega
                case rel => exact ⟨m + 1, k + 1, _, by go_num, by show _ = _; have := Hk.out; omega, by omega, rfl, by rw [HA2.out]; exact ⟨hq10, hown10⟩, hbq10⟩
              · have Hn2 := Lib.hid (Hrn.out (by rw [HitE.out]; rfl))
                go_wp2_with fail
                refine (Hbox4.out _ _ _ (Box.new _ _ _)).mono ?_
                rintro e w5 ⟨rfl, hw5⟩
                subst hw5
                go_wp2_with fail
                go_roundg (R - (m + 1))
                case measure => have := hgm.out; omega
                case rel => exact ⟨m + 1, k + 1, _, by go_num, by show _ = _; have := Hk.out; omega, by omega, rfl, by rw [Hn2.out]; exact hst4, hbq4⟩
        · obtain rfl : m = R := by omega
          rw [← Hos2.out] at hst
          have d0 := HTw.out _ (HTx.out _ hbq)
          rw [Hwa.out] at d0
          by_cases hk6 : k ≤ i6
          · have hd1 : decide ((k : Int) ≤ (i6 : Int)) = true := decide_eq_true (by omega)
            have hn1 : ws.length ≤ k := by have := Hk.out; have := HR.out; have := Hi1.out; have := Hi6.out; omega
            have hn2 : ¬ k < ws.length := by omega
            have hn3 : ¬ (k : Int) < (ws.length : Int) := by omega
            have hd2 : decide ((k : Int) < (ws.length : Int)) = false := decide_eq_false hn3
            go_wp2_with fail
            rw [← Hwa.out]
            go_roundg (ws.length - (i + 1))
            case measure => have := hgi.out; omega
            case rel => exact ⟨i + 1, _, by first | (go_num; done) | rw [Hi1.out], by omega, rfl, hst, hbq⟩
          · have hd1 : decide ((k : Int) ≤ (i6 : Int)) = false := decide_eq_false (by omega)
            go_wp2_with fail
            rw [← Hwa.out]
            go_roundg (ws.length - (i + 1))
            case measure => have := hgi.out; omega
            case rel => exact ⟨i + 1, _, by first | (go_num; done) | rw [Hi1.out], by omega, rfl, hst, hbq⟩
      · obtain rfl : i = ws.length := by omega
        have hol := Hol.out _ (Nat.le_refl _)
        rw [← Hfin.out] at hst hol
        have hfl : (B0 ++ addAll 4 ⟨#[]⟩ res).length ≤ 50000000 := by rw [List.length_append, addAll_len]; omega
        rw [Hall.out] at hst hfl
        have hb9 := hst.box.cell 0
        simp at hb9
        have HS := Lib.hid (sortGives_any (q + 1) (allG t names homes) v wr 50 (enters_of Tryz.func50 (by kernel_rfl) rfl) (fun x y W => anonClo2_any x y W) hst.own (by omega))
        go_wp2_with fail
        refine HS.out.mono ?_
        rintro e w10 ⟨rfl, hown10, hk10⟩
        have hbox10 := hst.box.kp hk10 (fun e => by have := (hst.own.lt _ e).1; omega)
        have hb10 := hbox10.cell 0
        simp at hb10
        have hsl := Nat.le_of_eq (sortG_len (allG t names homes))
        have HC := Lib.hid (compactG_any (q + 1) (sortG (allG t names homes)) v w10 hown10 (by omega))
        have hbq10 : Below q Wf w10 := belowKp hbq hk10 (fun j hj => by have := (hst.own.lt j hj).1; omega) (by have := hst.box.lt; omega)
        go_wp2_with fail
        refine HC.out.mono ?_
        rintro e w11 ⟨a11, c11, rfl, hsa11, hk11⟩
        have hbq11 : Below q Wf w11 := belowKp hbq10 hk11 (fun j hj => by have := (hown10.lt j hj).1; omega) (by have := hbox10.lt; omega)
        go_wp2_with fail
        go_ret
        exact ⟨below_next hb03 (HbF.out _ hbq11), a11, c11, rfl, hsa11⟩
end Go.Proofs.YthajoedabjfaaaaGreatDoor
