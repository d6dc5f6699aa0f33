/- What gives authors away: of the program. -/
import Derived.Test.YthajoedabjfaaaaGreatDoorAnon1
import Derived.Test.YthajoedabjfaaaaGreatDoorAnon2
import Derived.Test.YthajoedabjfaaaaGreatDoorSortG
import Derived.Test.YthajoedabjfaaaaGreatDoorComp
import Derived.Test.YthajoedabjfaaaaGreatDoorPlac
import Derived.Test.YthajoedabjfaaaaGreatDoorName
namespace Go.Proofs.YthajoedabjfaaaaGreatDoor
open Go.RowKit Go.Sort
set_option linter.unusedVariables false
set_option linter.unusedSimpArgs false

theorem namesG_snoc (t : ByteArray) {l : List ByteArray} {k : Nat} (hk : k < l.length) : namesG t (l.take (k + 1)) = namesG t (l.take k) ++ nameG t l[k] := flat_snoc (nameG t) hk
theorem homesG_snoc (t : ByteArray) {l : List ByteArray} {k : Nat} (hk : k < l.length) : homesG t (l.take (k + 1)) = homesG t (l.take k) ++ homeG t l[k] := flat_snoc (homeG t) hk
theorem namesG_len {t : ByteArray} (ht : t.size ≤ 1000000) {l : List ByteArray} (hl : l.length ≤ 20) (k : Nat) : (namesG t (l.take k)).length ≤ 40000080 := by
  have h1 := flat_len (nameG t) (2 * (t.size + 2)) (nameG_len t) (l.take k)
  have h2 : (l.take k).length ≤ 20 := by rw [List.length_take]; omega
  have h3 := Nat.mul_le_mul h2 (by omega : 2 * (t.size + 2) ≤ 2 * 1000002)
  unfold namesG
  omega
theorem homesG_len {t : ByteArray} (ht : t.size ≤ 20000) {l : List ByteArray} (hl : l.length ≤ 50) (k : Nat) : (homesG t (l.take k)).length ≤ 1000100 := by
  have h1 := flat_len (homeG t) (t.size + 2) (homeG_len t) (l.take k)
  have h2 : (l.take k).length ≤ 50 := by rw [List.length_take]; omega
  have h3 := Nat.mul_le_mul h2 (by omega : t.size + 2 ≤ 20002)
  unfold homesG
  omega
theorem bodyE_size {t : ByteArray} (h : bodyE t = 0) : t.size ≤ 20000 := by
  unfold bodyE at h
  split at h
  · cases h
  · omega
theorem all_of_take {α : Type} {p : α → Bool} {l : List α} (h : ∀ x ∈ l.take l.length, p x = true) : l.all p = true := by
  rw [List.take_length] at h
  exact List.all_eq_true.2 h
theorem not_all_of {α : Type} {p : α → Bool} {l : List α} {i : Nat} (hi : i < l.length) (h : p l[i] = false) : l.all p = false := by
  rw [Bool.eq_false_iff]
  intro e
  have := List.all_eq_true.1 e _ (List.getElem_mem hi)
  rw [h] at this
  cases this
/-- A slice that a call made lies apart from the box and from the list's own block. -/
theorem made_far {q n : Nat} {w w' : World} {v : Value} {acc : List Gv} {a : Option Addr} (h : GvSt q w v acc) (hn : w.heap.size ≤ n) (ha : ∀ x, a = some x → n ≤ x.block ∧ x.block < w'.heap.size) : ∀ x : Addr, a = some x → x.block ≠ q ∧ v.ownBlock ≠ some x.block := fun x hx => by
  have h1 := (ha x hx).1
  have h2 := h.box.lt
  exact ⟨by omega, fun e => by have := (h.own.lt _ e).2; omega⟩
theorem made_kp {α : Type} [Cel α] {q n : Nat} {w0 w w1 w' : World} {v : Value} {acc : List Gv} {a : Option Addr} {l : List α} (hsa : SA w a l) (h : GvSt q w0 v acc) (hn : w0.heap.size ≤ n) (ha : ∀ x, a = some x → n ≤ x.block ∧ x.block < w'.heap.size) (hk : Kp (GvX q v) w w1) : SA w1 a l :=
  hsa.kp hk (fun x hx _ e => e.elim (made_far h hn ha x hx).1 (made_far h hn ha x hx).2)
set_option maxRecDepth 100000 in
set_option maxHeartbeats 64000000 in
theorem anonymity_any (t : ByteArray) (names homes : List ByteArray) (na ha : Option Addr) (nc hc : Nat) (w : World) (hE : Env w) (hn : SA w na names) (hh : SA w ha homes) (hnl : names.length ≤ 20) (hhl : homes.length ≤ 50) (hnz : ∀ x ∈ names, x.size ≤ 1000000) (hhz : ∀ x ∈ homes, x.size ≤ 1000000) (hs : t.size ≤ 100000) :
    Calls Tryz.prog 10 #[.slice na names.length nc, .slice ha homes.length hc, .string t] w (fun e w' => Below w.heap.size w w' ∧ ((anonE t names homes ≠ 0 ∧ e = .returned (.tuple #[.slice none 0 0, .int .i64 (anonE t names homes)])) ∨ (anonE t names homes = 0 ∧ ∃ a c, e = .returned (.tuple #[.slice a (compG (sortG (allG t names homes))).length c, .int .i64 0]) ∧ SA w' a (compG (sortG (allG t names homes)))))) := by
  have hd1 : decide ((20 : Int) < (names.length : Int)) = false := decide_eq_false (by omega)
  have hd2 : decide ((50 : Int) < (homes.length : Int)) = false := decide_eq_false (by omega)
  have HCl := Lib.hid (clone_any names na nc w hn (by omega))
  have Haz : Hid (∀ x ∈ names ++ homes, x.size ≤ 1000000) := fun x hx => (List.mem_append.1 hx).elim (hnz x) (hhz x)
  have Hal : Hid ((names ++ homes).length ≤ 70) := by show _ ≤ _; rw [List.length_append]; omega
  have HX1 : Hid ((names ++ homes).all nameB = false → anonE t names homes = 3) := fun h => by unfold anonE; rw [h]; rfl
  have HX2 : Hid ((names ++ homes).all nameB = true → anonE t names homes = bodyE t) := fun h => by unfold anonE; rw [h]; rfl
  have Hnm0 : Hid ((names ++ homes).all nameB = true → ∀ x ∈ names, nameB x = true) := fun h x hx => List.all_eq_true.1 h x (List.mem_append_left _ hx)
  have Hhm0 : Hid ((names ++ homes).all nameB = true → ∀ x ∈ homes, nameB x = true) := fun h x hx => List.all_eq_true.1 h x (List.mem_append_right _ hx)
  have HT := Lib.hid (fun W (h : Below w.heap.size w W) => textFault_any t W (hE.below h) (by omega))
  have Hbs := Lib.hid (bodyE_size (t := t))
  have Hall : Hid (namesG t names ++ homesG t homes ++ addAll 4 ⟨#[]⟩ (oursS t) = allG t names homes) := rfl
  generalize anonE t names homes = ae at *
  clear hnz hhz
  go_enter Tryz.func10, Tryz.ntmps10
  go_wp2_with fail
  refine HCl.out.mono ?_
  rintro e w1 ⟨v1, rfl, hown1, hb1⟩
  have Hl1 := Lib.hid hown1.lt
  go_wp2_with (at_builtin; refine wpList_append_all (α := ByteArray) rfl _ _ 26 rfl 9 16 (.string ⟨#[]⟩) Tryz.underlying26 Tryz.infoStrW rfl v1 names rfl hown1 homes ha hc rfl (hh.below hb1) (by omega) (by omega) hb1.size ?_; intro v2 w2 hown2 hg2; have hb2 := hb1.grown hg2 hb1.size (fun j hj => (Hl1.out j hj).1); obtain ⟨a2, c2, rfl, hsa2, -, -⟩ := hown2.sa; clear hown2; generalize names ++ homes = al at *)
  go_loopg [33] al.length (fun gk i wr => ∃ k : Nat, i = .int .i64 k ∧ k ≤ al.length ∧ Hid (gk = al.length - k) ∧ Hid (∀ x ∈ al.take k, nameB x = true) ∧ Below w2.heap.size w2 wr)
  case atStart => exact ⟨0, rfl, by omega, rfl, fun x hx => (by cases hx), Below.refl _ _⟩
  obtain ⟨k, rfl, hk, hgk, hok, hb⟩ := hrel
  have hb02 := below_next hb2 hb
  have hal70 : al.length ≤ 70 := Hal.out
  by_cases hlt : k < al.length
  · obtain ⟨ab, ao, ha2, c0⟩ := (hsa2.below hb).str hlt
    have HN := Lib.hid (isName_any al[k] wr (hE.below hb02) (Haz.out _ (List.getElem_mem hlt)))
    have Htk := Lib.hid (List.take_succ_eq_append_getElem hlt)
    have Hno := Lib.hid (fun h => HX1.out (not_all_of hlt h))
    have Ha2 := Lib.hid ha2
    rw [ha2]
    clear ha2
    generalize al[k] = x at *
    obtain ⟨bx, hbx⟩ : ∃ bx, nameB x = bx := ⟨_, rfl⟩
    rw [hbx] at HN Hno
    have Hbx := Lib.hid hbx
    clear hbx
    have hk1 : (0 : Int) ≤ (k : Int) := by omega
    have hk2 : (k : Int) < (al.length : Int) := by omega
    cases bx
    · have Hr := Lib.hid (Hno.out rfl)
      go_wp2_with fail
      refine HN.out.mono ?_
      rintro e w3 ⟨rfl, hb3⟩
      go_wp2_with fail
      go_ret2
      exact ⟨below_next hb02 hb3, .inl ⟨by rw [Hr.out]; decide, by rw [Hr.out] <;> rfl⟩⟩
    · go_wp2_with fail
      refine HN.out.mono ?_
      rintro e w3 ⟨rfl, hb3⟩
      have hb3' := below_next hb hb3
      go_wp2_with fail
      rw [← Ha2.out]
      go_roundg (al.length - (k + 1))
      case measure => have := hgk.out; omega
      case rel => exact ⟨k + 1, by go_num, by omega, rfl, by rw [Htk.out]; exact fun x hx => (List.mem_append.1 hx).elim (hok.out x) (fun h => by rw [List.mem_singleton.1 h]; exact Hbx.out), hb3'⟩
  · obtain rfl : k = al.length := by omega
    have hall := all_of_take hok.out
    have Hnm := Lib.hid (Hnm0.out hall)
    have Hhm := Lib.hid (Hhm0.out hall)
    have HX := Lib.hid (HX2.out hall)
    have HT1 := Lib.hid (HT.out _ hb02)
    clear hall hok HX1 HX2 Hnm0 Hhm0 HT Haz Hal hgk hk hlt hsa2 Hl1 HCl
    generalize bodyE t = be at *
    by_cases hb0 : be = 0
    · subst hb0
      have hsz := Hbs.out rfl
      have HWo := Lib.hid (fun W => wordsOf_any t W (by omega))
      have HP := Lib.hid (fun ta tc W (h : SA W ta (wordsT t)) l la lc (hl : SA W la l) h1 h2 => places_any t l ta la tc lc W (by omega) h hl h1 h2)
      have HO := Lib.hid (fun ta tc W (hE' : Env W) (h : SA W ta (wordsT t)) hc' => ours_any t ta tc W hE' (by omega) h hc')
      have Hcl := Lib.hid (wordsT_length t)
      go_wp2_with fail
      refine HT1.out.mono ?_
      rintro e w3 ⟨rfl, hb3⟩
      have hb03 := below_next hb02 hb3
      go_wp2_with fail
      refine (HWo.out _).mono ?_
      rintro e Wf ⟨v4, rfl, hown4, hb4⟩
      have hb04 := below_next hb03 hb4
      obtain ⟨ta, tc, rfl, hsat, -, htc⟩ := hown4.sa
      have hEf := hE.below hb04
      have hnF := hn.below hb04
      have hhF := hh.below hb04
      clear HWo HT1 hb1 hb2 hb hb02 hb3 hb03 hb4 hown4 hn hh
      generalize wordsT t = wt at *
      go_wp2_with fail
      have hst0 : GvSt Wf.heap.size (Wf.alloc (.cells #[.slice none 0 0] 34)) (.slice none 0 0) [] := ⟨Box.new _ _ _, Own.nil _ _ _⟩
      have hbq0 : Below Wf.heap.size Wf (Wf.alloc (.cells #[.slice none 0 0] 34)) := (Below.refl _ _).alloc (Nat.le_refl _) _
      obtain ⟨q, hqW⟩ : ∃ q, Wf.heap.size = q := ⟨_, rfl⟩
      have hbF : ∀ W, Below q Wf W → Below Wf.heap.size Wf W := fun W h => by rw [hqW]; exact h
      have HbF := Lib.hid hbF
      rw [hqW] at hst0 hbq0 ⊢
      generalize Wf.alloc (.cells #[.slice none 0 0] 34) = W0 at *
      go_loopg [51] names.length (fun gk i wr => ∃ (k : Nat) (v : Value), i = .int .i64 k ∧ k ≤ names.length ∧ Hid (gk = names.length - k) ∧ GvSt q wr v (namesG t (names.take k)) ∧ Below q Wf wr)
      case atStart => exact ⟨0, _, rfl, by omega, rfl, by rw [List.take_zero]; exact hst0, hbq0⟩
      clear hst0 hbq0
      obtain ⟨k, v, rfl, hk, hgk, hst, hbq⟩ := hrel
      have hqr : q ≤ wr.heap.size := by have := hst.box.lt; omega
      by_cases hlt : k < names.length
      · obtain ⟨nb, no, hna, c0⟩ := (hnF.below (HbF.out _ hbq)).str hlt
        have hok := nameB_ok (Hnm.out _ (List.getElem_mem hlt))
        have Hsn := Lib.hid (namesG_snoc t hlt)
        have Hna := Lib.hid hna
        rw [hna]
        clear hna
        generalize names[k] = x at *
        have hal := namesG_len (t := t) (by omega) hnl k
        obtain ⟨A2, hA2⟩ : ∃ A2, namesG t (names.take (k + 1)) = A2 := ⟨_, rfl⟩
        rw [hA2] at Hsn
        have HA2 := Lib.hid hA2
        clear hA2
        generalize namesG t (names.take k) = A1 at *
        have HNg : Hid (nameG t x = addAll 1 x (findS t (wordsS x)) ++ if 1 < (wordsS x).length ∧ wordsS x ≠ initL (wordsS x) then addAll 2 x (findS t (initL (wordsS x))) else []) := rfl
        have hEr := hEf.below (HbF.out _ hbq)
        have HW := Lib.hid (words_any x wr (by omega))
        have HI := Lib.hid (fun W (h : Below wr.heap.size wr W) => initials_any x W (hEr.below h) (by omega) (by omega) (by omega))
        have hil1 : (initL (wordsS x)).length ≤ (wordsS x).length := Nat.le_of_eq (initL_length _)
        have hil2 : (wordsS x).length ≤ (initL (wordsS x)).length := Nat.le_of_eq (initL_length _).symm
        generalize initL (wordsS x) = iw at *
        generalize nameG t x = ng at *
        generalize wordsS x = xw at *
        have hf1 := findS_len t xw
        have hf2 := findS_len t iw
        have hk1 : (0 : Int) ≤ (k : Int) := by omega
        have hk2 : (k : Int) < (names.length : Int) := by omega
        obtain ⟨hx1, hx2, hx3⟩ := hok
        go_wp2_with fail
        refine HW.out.mono ?_
        rintro e w6 ⟨v6, rfl, hown6, hb6⟩
        obtain ⟨a6, c6, rfl, hsa6, hf6, -⟩ := hown6.sa
        go_wp2_with fail
        refine (HI.out _ hb6).mono ?_
        rintro e w7 ⟨v7, rfl, hown7, hb7⟩
        obtain ⟨a7, c7, rfl, hsa7, hf7, -⟩ := hown7.sa
        have hb67 := below_next hb6 hb7
        have hst7 := hst.below hb67
        have hbq7 := hbq.trans (hb67.mono hqr)
        have hq7 : q ≤ w7.heap.size := by have := hb67.size; omega
        have HP1 := Lib.hid (HP.out ta tc w7 (hsat.below (HbF.out _ hbq7)) xw a6 c6 (hsa6.below hb7) (by omega) (by omega))
        clear HW HI
        go_wp2_with fail
        refine HP1.out.mono ?_
        rintro e w8 ⟨v8, rfl, hown8, hb8⟩
        obtain ⟨a8, c8, rfl, hsa8, hf8, -⟩ := hown8.sa
        have hst8 := hst7.below hb8
        have hbq8 := hbq7.trans (hb8.mono hq7)
        have HA1 := Lib.hid (addP_any q v A1 1 x a8 c8 (findS t xw) w8 hst8 hsa8 (made_far hst hb67.size hf8) (by omega))
        go_wp2_with fail
        refine HA1.out.mono ?_
        rintro e w9 ⟨rfl, v9, hst9, hk9, hn9⟩
        have hbq9 := hst8.down hbq8 (Nat.le_refl _) hk9
        have hs6 : SA w9 a6 xw := made_kp ((hsa6.below hb7).below hb8) hst (Nat.le_refl _) hf6 hk9
        have hs7 : SA w9 a7 iw := made_kp (hsa7.below hb8) hst hb6.size hf7 hk9
        have hq9 : q ≤ w9.heap.size := by have := hst9.box.lt; omega
        clear HP1 HA1 hown6 hown7 hown8 hst7 hst8 hbq7 hbq8 hsa6 hsa7 hsa8 hf6 hf7 hf8 hk9 hn9
        by_cases h1 : xw.length ≤ 1
        · have hd : decide ((1 : Int) < (xw.length : Int)) = false := decide_eq_false (by omega)
          have hstF : GvSt q w9 v9 A2 := by rw [Hsn.out, HNg.out, if_neg (by omega), List.append_nil]; exact hst9
          clear hst9
          rw [← Hna.out]
          go_wp2_with fail
          go_roundg (names.length - (k + 1))
          case measure => have := hgk.out; omega
          case rel => exact ⟨k + 1, _, by go_num, by omega, rfl, by rw [HA2.out]; exact hstF, hbq9⟩
        · have hd : decide ((1 : Int) < (xw.length : Int)) = true := decide_eq_true (by omega)
          have HEq := Lib.hid (equal_any xw iw a6 a7 c6 c7 w9 hs6 hs7 (by omega) (by omega))
          by_cases heq : xw = iw
          · have hstF : GvSt q w9 v9 A2 := by rw [Hsn.out, HNg.out, if_neg (fun h => h.2 heq), List.append_nil]; exact hst9
            rw [decide_eq_true heq] at HEq
            clear hst9 heq
            go_wp2_with fail
            refine HEq.out.mono ?_
            rintro e w10 ⟨rfl, nq, rfl⟩
            have hst10 := hstF.below (below_drewN (Below.refl _ _) nq)
            have hbq10 := below_drewN hbq9 nq
            rw [← Hna.out]
            go_wp2_with fail
            go_roundg (names.length - (k + 1))
            case measure => have := hgk.out; omega
            case rel => exact ⟨k + 1, _, by go_num, by omega, rfl, by rw [HA2.out]; exact hst10, hbq10⟩
          · have Hne := Lib.hid (show 1 < xw.length ∧ xw ≠ iw from ⟨by omega, heq⟩)
            rw [decide_eq_false heq] at HEq
            clear heq
            go_wp2_with fail
            refine HEq.out.mono ?_
            rintro e w10 ⟨rfl, nq, rfl⟩
            have hst10 := hst9.below (below_drewN (Below.refl _ _) nq)
            have hbq10 := below_drewN hbq9 nq
            have HP2 := Lib.hid (HP.out ta tc _ (hsat.below (HbF.out _ hbq10)) iw a7 c7 (hs7.drewN nq) (by omega) (by omega))
            clear HEq hst9 hbq9 hs6 hs7
            go_wp2_with fail
            refine HP2.out.mono ?_
            rintro e w11 ⟨v11, rfl, hown11, hb11⟩
            obtain ⟨a11, c11, rfl, hsa11, hf11, -⟩ := hown11.sa
            have hst11 := hst10.below hb11
            have hbq11 := hbq10.trans (hb11.mono hq9)
            have HA3 := Lib.hid (addP_any q v9 (A1 ++ addAll 1 x (findS t xw)) 2 x a11 c11 (findS t iw) w11 hst11 hsa11 (made_far hst10 (Nat.le_refl _) hf11) (by rw [List.length_append, addAll_len]; omega))
            go_wp2_with fail
            refine HA3.out.mono ?_
            rintro e w12 ⟨rfl, v12, hst12, hk12, hn12⟩
            have hbq12 := hst11.down hbq11 (Nat.le_refl _) hk12
            have hstF : GvSt q w12 v12 A2 := by rw [Hsn.out, HNg.out, if_pos Hne.out, ← List.append_assoc]; exact hst12
            clear hst12
            rw [← Hna.out]
            go_wp2_with fail
            go_roundg (names.length - (k + 1))
            case measure => have := hgk.out; omega
            case rel => exact ⟨k + 1, _, by go_num, by omega, rfl, by rw [HA2.out]; exact hstF, hbq12⟩
      · obtain rfl : k = names.length := by omega
        have hngl := namesG_len (t := t) (by omega) hnl names.length
        rw [List.take_length] at hst hngl
        generalize namesG t names = NG at *
        clear hgk hk hlt Hnm hnF
        go_wp2_with fail
        rename World => wo2
        go_loopg [83] homes.length (fun gk i wr => ∃ (k : Nat) (v : Value), i = .int .i64 k ∧ k ≤ homes.length ∧ Hid (gk = homes.length - k) ∧ GvSt q wr v (NG ++ homesG t (homes.take k)) ∧ Below q Wf wr)
        case atStart => exact ⟨0, _, rfl, by omega, rfl, by rw [List.take_zero]; exact (by rw [show homesG t [] = [] from rfl, List.append_nil]; exact hst), hbq⟩
        clear hst hbq
        obtain ⟨k, v, rfl, hk, hgk, hst, hbq⟩ := hrel
        have hqr : q ≤ wr.heap.size := by have := hst.box.lt; omega
        by_cases hlt : k < homes.length
        · obtain ⟨nb, no, hna, c0⟩ := (hhF.below (HbF.out _ hbq)).str hlt
          have hok := nameB_ok (Hhm.out _ (List.getElem_mem hlt))
          have Hsn : Hid (NG ++ homesG t (homes.take (k + 1)) = (NG ++ homesG t (homes.take k)) ++ homeG t homes[k]) := by show _ = _; rw [homesG_snoc t hlt, List.append_assoc]
          have Hna := Lib.hid hna
          rw [hna]
          clear hna
          generalize homes[k] = x at *
          have hal : (NG ++ homesG t (homes.take k)).length ≤ 42000000 := by have := homesG_len (t := t) hsz hhl k; rw [List.length_append]; omega
          obtain ⟨A2, hA2⟩ : ∃ A2, NG ++ homesG t (homes.take (k + 1)) = A2 := ⟨_, rfl⟩
          rw [hA2] at Hsn
          have HA2 := Lib.hid hA2
          clear hA2
          generalize NG ++ homesG t (homes.take k) = A1 at *
          have HNg : Hid (homeG t x = addAll 3 x (findS t (wordsS x))) := rfl
          have HW := Lib.hid (fun W => words_any x W (by omega))
          generalize homeG t x = ng at *
          generalize wordsS x = xw at *
          have hf1 := findS_len t xw
          have hk1 : (0 : Int) ≤ (k : Int) := by omega
          have hk2 : (k : Int) < (homes.length : Int) := by omega
          obtain ⟨hx1, hx2, hx3⟩ := hok
          go_wp2_with fail
          refine (HW.out _).mono ?_
          rintro e w7 ⟨v6, rfl, hown6, hb6⟩
          obtain ⟨a6, c6, rfl, hsa6, hf6, -⟩ := hown6.sa
          have hst7 := hst.below hb6
          have hbq7 := hbq.trans (hb6.mono hqr)
          have hq7 : q ≤ w7.heap.size := by have := hb6.size; omega
          have HP1 := Lib.hid (HP.out ta tc w7 (hsat.below (HbF.out _ hbq7)) xw a6 c6 hsa6 (by omega) (by omega))
          clear HW
          go_wp2_with fail
          refine HP1.out.mono ?_
          rintro e w8 ⟨v8, rfl, hown8, hb8⟩
          obtain ⟨a8, c8, rfl, hsa8, hf8, -⟩ := hown8.sa
          have hst8 := hst7.below hb8
          have hbq8 := hbq7.trans (hb8.mono hq7)
          have HA1 := Lib.hid (addP_any q v A1 3 x a8 c8 (findS t xw) w8 hst8 hsa8 (made_far hst hb6.size hf8) (by omega))
          go_wp2_with fail
          refine HA1.out.mono ?_
          rintro e w9 ⟨rfl, v9, hst9, hk9, hn9⟩
          have hbq9 := hst8.down hbq8 (Nat.le_refl _) hk9
          have hstF : GvSt q w9 v9 A2 := by rw [Hsn.out, HNg.out]; exact hst9
          clear hst9
          rw [← Hna.out]
          go_wp2_with fail
          go_roundg (homes.length - (k + 1))
          case measure => have := hgk.out; omega
          case rel => exact ⟨k + 1, _, by go_num, by omega, rfl, by rw [HA2.out]; exact hstF, hbq9⟩
        · obtain rfl : k = homes.length := by omega
          have hhgl := homesG_len (t := t) hsz hhl homes.length
          rw [List.take_length] at hst hhgl
          have hol := oursTo_len t (wordsS t).length
          have hwl : (wordsS t).length ≤ 20001 := by have := spots_len t; rw [wordsS_length]; omega
          have HOl : Hid (oursS t = oursTo t (wordsS t).length) := rfl
          have hal : (NG ++ homesG t homes).length ≤ 42000000 := by rw [List.length_append]; omega
          have hou : (oursS t).length ≤ 200000 := by rw [HOl.out]; omega
          generalize homesG t homes = HG at *
          clear hgk hk hlt Hhm hhF hol hwl HOl
          have HO1 := Lib.hid (HO.out ta tc wr (hEf.below (HbF.out _ hbq)) (hsat.below (HbF.out _ hbq)) htc)
          have hb0 := hst.box.cell 0
          go_wp2_with fail
          refine HO1.out.mono ?_
          rintro e w8 ⟨v8, rfl, hown8, hb8⟩
          obtain ⟨a8, c8, rfl, hsa8, hf8, -⟩ := hown8.sa
          have hst8 := hst.below hb8
          have hbq8 := hbq.trans (hb8.mono hqr)
          have HA1 := Lib.hid (addP_any q v (NG ++ HG) 4 ⟨#[]⟩ a8 c8 (oursS t) w8 hst8 hsa8 (made_far hst (Nat.le_refl _) hf8) (by omega))
          go_wp2_with fail
          refine HA1.out.mono ?_
          rintro e w9 ⟨rfl, v9, hst9, hk9, hn9⟩
          have hbq9 := hst8.down hbq8 (Nat.le_refl _) hk9
          have hfl : (NG ++ HG ++ addAll 4 ⟨#[]⟩ (oursS t)).length ≤ 50000000 := by rw [List.length_append, addAll_len]; omega
          rw [Hall.out] at hst9 hfl
          clear hst hst8 hbq hbq8 HO1 HA1 hown8 hsa8 hf8 hk9 hn9 hb0
          have hb9 := hst9.box.cell 0
          simp at hb9
          have HS := Lib.hid (sortGives_any (q + 1) (allG t names homes) v9 w9 40 (enters_of Tryz.func40 (by kernel_rfl) rfl) (fun x y W => compareGives_any x y W) hst9.own (by omega))
          go_wp2_with fail
          refine HS.out.mono ?_
          rintro e w10 ⟨rfl, hown10, hk10⟩
          have hbox10 := hst9.box.kp hk10 (fun e => by have := (hst9.own.lt _ e).1; omega)
          have hb10 := hbox10.cell 0
          simp at hb10
          have hsl := Nat.le_of_eq (sortG_len (allG t names homes))
          have HC := Lib.hid (compactG_any (q + 1) (sortG (allG t names homes)) v9 w10 hown10 (by omega))
          have hbq10 : Below q Wf w10 := belowKp hbq9 hk10 (fun j hj => by have := (hst9.own.lt j hj).1; omega) (by have := hst9.box.lt; omega)
          go_wp2_with fail
          refine HC.out.mono ?_
          rintro e w11 ⟨a11, c11, rfl, hsa11, hk11⟩
          have hbq11 : Below q Wf w11 := belowKp hbq10 hk11 (fun j hj => by have := (hown10.lt j hj).1; omega) (by have := hbox10.lt; omega)
          go_wp2_with fail
          go_ret2
          exact ⟨below_next hb04 (HbF.out _ hbq11), .inr ⟨HX.out, a11, c11, rfl, hsa11⟩⟩
    · have hbe0 : be ≠ 0 := hb0
      go_wp2_with fail
      refine HT1.out.mono ?_
      rintro e w3 ⟨rfl, hb3⟩
      go_wp2_with fail
      go_ret2
      exact ⟨below_next hb02 hb3, .inl ⟨by rw [HX.out]; exact hbe0, by rw [HX.out] <;> rfl⟩⟩
end Go.Proofs.YthajoedabjfaaaaGreatDoor
