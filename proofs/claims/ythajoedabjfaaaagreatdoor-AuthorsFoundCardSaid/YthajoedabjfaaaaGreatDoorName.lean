/- Names and their initials: of the program, and of the reference. -/
import Derived.Test.YthajoedabjfaaaaGreatDoorAuthQ
import Derived.Test.YthajoedabjfaaaaGreatDoorWord1
import Derived.Test.YthajoedabjfaaaaGreatDoorWord2
import Derived.Test.YthajoedabjfaaaaGreatDoorText1
import Derived.Test.YthajoedabjfaaaaGreatDoorOutside
import Derived.Test.YthajoedabjfaaaaGreatDoorList
import Derived.Test.YthajoedabjfaaaaGreatDoorShelf
namespace Go.Proofs.YthajoedabjfaaaaGreatDoor
open Go.RowKit
set_option linter.unusedVariables false
set_option linter.unusedSimpArgs false

def nameB (s : ByteArray) : Bool := decide (1 ≤ s.size) && (plainB s && (decide (s.size ≤ 60) && (decide (1 ≤ (wordsS s).length) && decide ((wordsS s).length ≤ 6))))
theorem nameB_ok {s : ByteArray} (h : nameB s = true) : s.size ≤ 60 ∧ 1 ≤ (wordsS s).length ∧ (wordsS s).length ≤ 6 := by
  unfold nameB at h
  simp only [Bool.and_eq_true, decide_eq_true_eq] at h
  exact ⟨h.2.2.1, h.2.2.2.1, h.2.2.2.2⟩
set_option maxRecDepth 100000 in
set_option maxHeartbeats 4000000 in
theorem isName_any (s : ByteArray) (w : World) (hE : Env w) (hs : s.size ≤ 1000000) : Calls Tryz.prog 25 #[.string s] w (Gives (.bool (nameB s)) w) := by
  have HP := Lib.hid (isPlain_any s w hE (by omega))
  have HW := Lib.hid (fun W => wordsOf_any s W (by omega))
  have Hlen := Lib.hid (show (wordsT s).length = (wordsS s).length by unfold wordsT wordsS; rw [List.length_map, List.length_map])
  have Hfin : Hid (nameB s = (decide (1 ≤ s.size) && (plainB s && (decide (s.size ≤ 60) && (decide (1 ≤ (wordsS s).length) && decide ((wordsS s).length ≤ 6)))))) := rfl
  have hie := isEmpty_size s
  generalize nameB s = res at *
  generalize plainB s = pb at *
  generalize wordsS s = ws at *
  generalize wordsT s = wt at *
  by_cases h0 : s.size = 0
  · have hr : res = false := by rw [Hfin.out, decide_eq_false (by omega)]; rfl
    subst hr
    rw [decide_eq_true h0] at hie
    clear Hfin HP HW
    go_enter Tryz.func25, Tryz.ntmps25
    go_wp2_with fail
    go_ret
    exact ⟨rfl, Below.refl _ _⟩
  · rw [decide_eq_false h0] at hie
    cases pb
    · have hr : res = false := by rw [Hfin.out]; simp
      subst hr
      clear Hfin HW
      go_enter Tryz.func25, Tryz.ntmps25
      go_wp2_with fail
      refine HP.out.mono ?_
      rintro e w1 ⟨rfl, hb1⟩
      go_wp2_with fail
      go_ret
      exact ⟨rfl, hb1⟩
    · by_cases h60 : s.size ≤ 60
      · have Hr := Lib.hid (show res = (decide (1 ≤ ws.length) && decide (ws.length ≤ 6)) by rw [Hfin.out, decide_eq_true h60, decide_eq_true (by omega : 1 ≤ s.size)]; simp)
        have hd : (s.size : Int) ≤ 60 := by omega
        clear Hfin h60
        go_enter Tryz.func25, Tryz.ntmps25
        go_wp2_with fail
        refine HP.out.mono ?_
        rintro e w1 ⟨rfl, hb1⟩
        go_wp2_with fail
        refine (HW.out _).mono ?_
        rintro e w2 ⟨v2, rfl, hown2, hb2⟩
        obtain ⟨wa, wc, rfl, -, -, -⟩ := hown2.sa
        have HO := Lib.hid (fun W => outside_any (wt.length : Int) 1 6 W)
        go_wp2_with fail
        refine (HO.out _).mono ?_
        rintro e w3 ⟨rfl, rfl⟩
        generalize ho : (decide ((wt.length : Int) < 1) || decide ((6 : Int) < (wt.length : Int))) = ob at *
        have Hr2 : Hid ((!ob) = res) := by
          show _ = _
          rw [Hr.out, ← ho, Hlen.out, Bool.eq_iff_iff]
          simp
          omega
        clear ho HO Hr
        go_wp2_with fail
        go_ret
        exact ⟨congrArg (fun b => Ending.returned (Value.bool b)) Hr2.out, below_next hb1 hb2⟩
      · have hr : res = false := by rw [Hfin.out, decide_eq_false h60]; simp
        subst hr
        have hd : ¬ (s.size : Int) ≤ 60 := by omega
        clear Hfin HW h60
        go_enter Tryz.func25, Tryz.ntmps25
        go_wp2_with fail
        refine HP.out.mono ?_
        rintro e w1 ⟨rfl, hb1⟩
        go_wp2_with fail
        go_ret
        exact ⟨rfl, hb1⟩
set_option maxHeartbeats 4000000 in
theorem nameOf_any (s : ByteArray) (w : World) (hE : Env w) (hs : s.size ≤ 1000000) : Calls Tryz.prog 8 #[.string s] w (Gives (.bool (nameB s)) w) := by
  have HP := Lib.hid (fun W (h : Below w.heap.size w W) => plainOf_any s W (hE.below h) (by omega))
  have HW := Lib.hid (wordsOfR_any s w (by omega))
  have Hfin : Hid (nameB s = (decide (1 ≤ s.size) && (plainB s && (decide (s.size ≤ 60) && (decide (1 ≤ (wordsS s).length) && decide ((wordsS s).length ≤ 6)))))) := rfl
  generalize nameB s = res at *
  generalize plainB s = pb at *
  generalize wordsS s = ws at *
  go_enter Tryz.func8, Tryz.ntmps8
  go_wp2_with fail
  refine HW.out.mono ?_
  rintro e w1 ⟨v1, rfl, hown1, hb1⟩
  obtain ⟨wa, wc, rfl, -, -, -⟩ := hown1.sa
  go_wp2_with fail
  refine (HP.out _ hb1).mono ?_
  rintro e w2 ⟨rfl, hb2⟩
  have hb := below_next hb1 hb2
  cases pb
  all_goals
    go_wp2_with fail
    all_goals
      go_ret
      refine ⟨congrArg (fun b => Ending.returned (Value.bool b)) (?_ : _ = res), hb⟩
      rw [Hfin.out, Bool.eq_iff_iff]
      simp
      try omega
theorem decode_any (s : ByteArray) (w : World) (hE : Env w) : Calls Tryz.prog 30 #[.string s] w (fun e w' => e = .returned (.tuple #[.int .i32 ((Lib.decodeGo s).1 : Int), .int .i64 (runeN s : Int)]) ∧ Below w.heap.size w w') := Tryz.utf8_DecodeRuneInString s w hE.1
theorem rune_ascii {x : ByteArray} (h : 0 < x.size) (h1 : x[0].toNat < 128) : runeN x = 1 := by
  unfold runeN Lib.decodeGo
  rw [if_neg (by omega)]
  rw [Lib.decode_at, Lib.decodeN_ascii]
  rw [Utf8W.get!_of_lt x 0 h]
  exact h1
theorem lt_length_of_cast {a b : Nat} (h : a < b) : (a : Int) < (b : Int) := by omega
set_option maxRecDepth 100000 in
set_option maxHeartbeats 8000000 in
theorem initials_any (s : ByteArray) (w : World) (hE : Env w) (hs : s.size ≤ 1000000) (hne : 1 ≤ (wordsS s).length) (hll : (wordsS s).length ≤ 1000000) : Calls Tryz.prog 27 #[.string s] w (GivesOwn 9 (initL (wordsS s)) w) := by
  have HW := Lib.hid (words_any s w (by omega))
  have Hpu := Lib.hid (fun x (h : x ∈ wordsS s) => word_pure h)
  have Hfin : Hid (initL (wordsS s) = chgTo cutW (wordsS s) ((wordsS s).length - 1)) := rfl
  generalize initL (wordsS s) = res at *
  generalize wordsS s = ws at *
  clear hs
  go_enter Tryz.func27, Tryz.ntmps27
  go_wp2_with fail
  refine HW.out.mono ?_
  rintro e W1 ⟨v1, rfl, hown1, hb1⟩
  obtain ⟨wa, wc, rfl, hsa1, hab, hcap⟩ := hown1.form
  obtain ⟨g, rfl, hg1, hg2⟩ : ∃ g, wa = some ⟨g, 0, none⟩ ∧ w.heap.size ≤ g ∧ g < W1.heap.size := by
    rcases hab with rfl | ⟨g, rfl, h1, h2⟩
    · rcases hsa1 with h | ⟨b, o, h, -⟩
      · rw [h] at hne; simp at hne
      · cases h
    · exact ⟨g, rfl, h1, h2⟩
  obtain ⟨n1, hn1⟩ : ∃ n1, ws.length - 1 = n1 := ⟨_, rfl⟩
  have hwn : IntKind.i64.wrap ((ws.length : Int) - 1) = (n1 : Int) := by rw [IntWalk.i64_in _ (by omega)]; omega
  have hn0 : (0 : Int) ≤ (n1 : Int) := by omega
  have hn2 : (n1 : Int) ≤ (wc : Int) := by omega
  have hn3 : n1 < ws.length := by omega
  rw [hn1] at Hfin
  clear hn1 HW hsa1 hab
  go_wp2_with fail
  go_loopg [17] n1 (fun gk i wr => ∃ k : Nat, i = .int .i64 k ∧ k ≤ n1 ∧ Hid (gk = n1 - k) ∧ Own w.heap.size 9 wr (.slice (some ⟨g, 0, none⟩) ws.length wc) (chgTo cutW ws k) ∧ Below w.heap.size w wr)
  case atStart => exact ⟨0, rfl, by omega, rfl, by rw [chgTo_zero]; exact hown1, hb1⟩
  obtain ⟨k, rfl, hk, hgk, hown, hb⟩ := hrel
  have hzr := hb.size
  by_cases hlt : k < n1
  · have hkw : k < ws.length := by omega
    have hkc : k < (chgTo cutW ws k).length := by rw [chgTo_length]; exact hkw
    obtain ⟨a2, c2, he2, hsa2, -, -⟩ := hown.sa
    obtain ⟨b2, o2, hb2, c0⟩ := hsa2.str hkc
    rw [chgTo_at hkw hkc] at c0
    simp only [Value.slice.injEq] at he2
    rw [← he2.1] at hb2
    cases hb2
    clear he2
    have hfr : wr.frozen? ⟨g, 0 + k, none⟩ = false := by
      obtain ⟨cur, hbox⟩ := hown.box
      exact hbox.frozen _
    have hx := Hpu.out _ (List.getElem_mem hkw)
    have Hsu := Lib.hid (chgTo_succ (f := cutW) hkw)
    have hEr := hE.below (by exact below_next (Below.refl _ _) hb)
    generalize ws[k] = x at *
    have hxs := pure_size hx
    have HD := Lib.hid (fun W (h : Env W) => decode_any x W h)
    have hr1 := runeN_pos hxs
    have hr2 := runeN_le x
    have Hra := Lib.hid (rune_ascii hxs)
    have Hol := Lib.hid hown.lt
    have Hcut : Hid (x.extract 0 (runeN x) = cutW x) := rfl
    generalize cutW x = cx at *
    generalize runeN x = rn at *
    generalize (Lib.decodeGo x).1 = rr at *
    have hcl := x[0].toNat_lt
    generalize hc : x[0].toNat = c at *
    have hk1 : (0 : Int) ≤ (k : Int) := by omega
    have hk2 : (k : Int) < (n1 : Int) := by omega
    have hk3 : (k : Int) < (ws.length : Int) := by omega
    have hxz : (0 : Int) < (x.size : Int) := by omega
    have hput0 := fun W (h : Own w.heap.size 9 W (.slice (some ⟨g, 0, none⟩) ws.length wc) (chgTo cutW ws k)) => h.put k 0 cx (.string cx) hkc (by decide) rfl
    rw [show k * Cel.k ByteArray + 0 = k by show k * 1 + 0 = k; omega, ← Hsu.out] at hput0
    have hgw := hg1
    rw [Nat.zero_add] at c0 hfr
    clear hkc hkw hsa2 Hsu
    by_cases hc2 : c < 128
    · obtain rfl := Hra.out hc2
      have hcd : decide ((128 : Int) ≤ (c : Int)) = false := decide_eq_false (by omega)
      have hput := hput0 _ hown
      have hb3 := hb.setCell (p := ⟨g, k, none⟩) (by show w.heap.size ≤ g; exact hg1) (.string cx)
      have hcut := Hcut.out
      clear hown HD Hra
      go_wp2_with fail
      go_roundg (n1 - (k + 1))
      case measure => have := hgk.out; omega
      case rel => exact ⟨k + 1, by go_num, by omega, rfl, hput, hb3⟩
    · have hcd : decide ((128 : Int) ≤ (c : Int)) = true := decide_eq_true (by omega)
      have hsl : (rn : Int) ≤ (x.size : Int) := by omega
      have hcut := Hcut.out
      go_wp2_with fail
      refine (HD.out _ hEr).mono ?_
      rintro e w3 ⟨rfl, hb3'⟩
      have hput := hput0 _ (hown.below hb3')
      have hfr3 : w3.frozen? ⟨g, k, none⟩ = false := by
        obtain ⟨cur, hbox⟩ := (hown.below hb3').box
        exact hbox.frozen _
      have hgz : g < w3.heap.size := by have := hb3'.size; have := (Hol.out g rfl).2; omega
      have hb3 := (below_next hb hb3').setCell (p := ⟨g, k, none⟩) (by show w.heap.size ≤ g; exact hg1) (.string cx)
      have c3 := cell_later hb3' c0
      clear hown HD Hra hput0
      by_cases hr : (rr : Int) = 65533
      · by_cases hs1 : (1 : Int) < (rn : Int)
        · go_wp2_with fail
          go_roundg (n1 - (k + 1))
          case measure => have := hgk.out; omega
          case rel => exact ⟨k + 1, by go_num, by omega, rfl, hput, hb3⟩
        · obtain rfl : rn = 1 := by omega
          go_wp2_with fail
          go_roundg (n1 - (k + 1))
          case measure => have := hgk.out; omega
          case rel => exact ⟨k + 1, by go_num, by omega, rfl, hput, hb3⟩
      · go_wp2_with fail
        go_roundg (n1 - (k + 1))
        case measure => have := hgk.out; omega
        case rel => exact ⟨k + 1, by go_num, by omega, rfl, hput, hb3⟩
  · obtain rfl : k = n1 := by omega
    rw [← Hfin.out] at hown
    have hlen : res.length = ws.length := by rw [Hfin.out, chgTo_length]
    go_wp2_with fail
    go_ret
    exact ⟨_, rfl, hown, hb⟩
end Go.Proofs.YthajoedabjfaaaaGreatDoor
