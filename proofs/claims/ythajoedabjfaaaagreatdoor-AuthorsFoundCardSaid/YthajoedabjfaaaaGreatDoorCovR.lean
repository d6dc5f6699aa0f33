/- Covered texts: the reference. -/
import Derived.Test.YthajoedabjfaaaaGreatDoorAuthR
import Derived.Test.YthajoedabjfaaaaGreatDoorWord2
import Derived.Test.YthajoedabjfaaaaGreatDoorName
import Derived.Test.YthajoedabjfaaaaGreatDoorReg
import Derived.Test.YthajoedabjfaaaaGreatDoorSortG
namespace Go.Proofs.YthajoedabjfaaaaGreatDoor
open Go.RowKit
set_option linter.unusedVariables false
set_option linter.unusedSimpArgs false

set_option maxRecDepth 100000 in
set_option maxHeartbeats 4000000 in
theorem indexGive_any (l : List Gv) (a : Option Addr) (cap g : Nat) (lb : Array Value) (c : Gv → Bool) (w : World) (eg : ∀ args w, (callFunc g args).run Tryz.prog w = .ok (.enter g args) w) (h : SA w a l) (hlen : l.length ≤ 1000000000) (hc : TestAt encG g lb c l w) :
    Calls Tryz.prog 89 #[.slice a l.length cap, .func (.func g) #[] lb] w (fun e w' => ∃ r : Int, e = .returned (.int .i64 r) ∧ decide (0 ≤ r) = l.any c ∧ Below w.heap.size w w' ∧ r = idxI c l) := by
  have HC := Lib.hid hc
  clear hc
  go_enter Tryz.func89, Tryz.ntmps89
  go_wp2_with fail
  go_loopg [8] l.length (fun gk i wr => ∃ k : Nat, i = .int .i64 k ∧ k ≤ l.length ∧ Hid (gk = l.length - k) ∧ Hid (∀ x ∈ l.take k, c x = false) ∧ Below w.heap.size w wr)
  case atStart => exact ⟨0, rfl, by omega, rfl, fun x hx => (by cases hx), Below.refl _ _⟩
  case round =>
    obtain ⟨k, rfl, hk, hgk, hf, hb⟩ := hrel
    by_cases hlt : k < l.length
    · obtain ⟨b, off, ha, c0, c1, c2, c3⟩ := (h.below hb).giv hlt
      have HCx := Lib.hid (HC.out l[k] (List.getElem_mem hlt) wr hb)
      have Hat := Lib.hid (any_at (c := c) hlt)
      have Htk := Lib.hid (List.take_succ_eq_append_getElem hlt)
      have Hix := Lib.hid (fun h => idxI_at (c := c) hlt h hf.out)
      have Ha := Lib.hid ha
      rw [ha]
      clear ha
      generalize l[k] = x at *
      obtain ⟨x1, x2, x3, x4⟩ := x
      (try simp only at *)
      have hk1 : (0 : Int) ≤ (k : Int) := by omega
      have hk2 : (k : Int) < (l.length : Int) := by omega
      obtain ⟨cx, hcx⟩ : ∃ cx, c ⟨x1, x2, x3, x4⟩ = cx := ⟨_, rfl⟩
      rw [hcx] at HCx Hat Hix
      have Hcx := Lib.hid hcx
      clear hcx
      go_wp2_with fail
      refine HCx.out.mono ?_
      rintro e w1 ⟨rfl, hb1⟩
      have hb1' := below_next hb hb1
      cases cx
      · go_wp2_with fail
        rw [← Ha.out]
        go_roundg (l.length - (k + 1))
        case measure => have := hgk.out; omega
        case rel => exact ⟨k + 1, by go_num, by omega, rfl, by rw [Htk.out]; exact fun x hx => (List.mem_append.1 hx).elim (hf.out x) (fun h => by rw [List.mem_singleton.1 h]; exact Hcx.out), hb1'⟩
      · have Hany := Lib.hid (Hat.out rfl)
        have Hr := Lib.hid (Hix.out rfl)
        go_wp2_with fail
        go_ret
        exact ⟨_, rfl, by rw [Hany.out]; exact decide_eq_true hk1, hb1', Hr.out.symm⟩
    · obtain rfl : k = l.length := by omega
      have Hany := Lib.hid (any_none hf.out)
      have Hr := Lib.hid (idxI_none hf.out)
      go_wp2_with fail
      go_ret
      exact ⟨_, rfl, by rw [Hany.out]; rfl, hb, Hr.out.symm⟩
set_option maxHeartbeats 4000000 in
theorem findGive_any (l : List Gv) (a : Option Addr) (cap g : Nat) (lb : Array Value) (c : Gv → Bool) (w : World) (eg : ∀ args w, (callFunc g args).run Tryz.prog w = .ok (.enter g args) w) (h : SA w a l) (hlen : l.length ≤ 1000000000) (hc : TestAt encG g lb c l w) :
    Calls Tryz.prog 58 #[.slice a l.length cap, .func (.func g) #[] lb] w (Gives (.bool (l.any c)) w) := by
  have HI := Lib.hid (indexGive_any l a cap g lb c w eg h hlen hc)
  clear hc
  go_enter Tryz.func58, Tryz.ntmps58
  go_wp2_with fail
  refine HI.out.mono ?_
  rintro e w1 ⟨r, rfl, hr, hb, hri⟩
  clear hri
  go_wp2_with fail
  go_ret
  exact ⟨by rw [← hr] <;> rfl, hb⟩
set_option maxHeartbeats 4000000 in
theorem covFaultClo_any (x : Gv) (bt : Nat) (s : ByteArray) (w : World) (ht : w.cell? ⟨bt, 0, none⟩ = some (.string s)) (hs : s.size ≤ 1000000000) :
    Calls Tryz.prog 59 #[encG x, .pointer (some ⟨bt, 0, none⟩)] w (Gives (.bool (giveB s.size x)) w) := by
  obtain ⟨x1, x2, x3, x4⟩ := x
  have HV : Hid (giveB s.size (x1, x2, x3, x4) = (decide (x2 < 0) || (decide (x3 ≤ x2) || decide ((s.size : Int) < x3)))) := rfl
  generalize giveB s.size (x1, x2, x3, x4) = v at *
  have hB := Box.new w 42 #[.int .i64 x1, .int .i64 x2, .int .i64 x3, .string x4]
  have hb0 : Below w.heap.size w (w.alloc (.cells #[.int .i64 x1, .int .i64 x2, .int .i64 x3, .string x4] 42)) := by (repeat' (first | exact Below.refl _ _ | assumption | refine Below.setCell ?_ ?_ _ | refine below_drewN ?_ _ | refine Below.drew ?_ | refine Below.alloc ?_ ?_ _ | (with_reducible refine Below.trans ?_ (Below.mono hb ?_)) | (with_reducible refine Below.trans ?_ (Below.mono hb0 ?_)) | (with_reducible refine Below.trans ?_ (Below.mono hb1 ?_)) | (with_reducible refine Below.trans ?_ (Below.mono hb2 ?_)) | (with_reducible refine Below.trans ?_ (Below.mono hb3 ?_)) | (with_reducible refine Below.trans ?_ (Below.mono hb4 ?_)) | (with_reducible refine Below.trans ?_ (Below.mono hb5 ?_)) | (with_reducible refine Below.trans ?_ (Below.mono hb6 ?_)) | (with_reducible refine Below.trans ?_ (Below.mono hb7 ?_)) | (with_reducible refine Below.trans ?_ (Below.mono hb8 ?_)) | (with_reducible refine Below.trans ?_ (Below.mono hb9 ?_)) | (with_reducible refine Below.trans ?_ (Below.mono hb10 ?_)) | (with_reducible refine Below.trans ?_ (Below.mono hb11 ?_)) | (with_reducible refine Below.trans ?_ (Below.mono hb12 ?_)) | (with_reducible refine Below.trans ?_ (Below.mono hb13 ?_)) | (with_reducible refine Below.trans ?_ (Below.mono hb14 ?_)) | (with_reducible refine Below.trans ?_ (Below.mono hb15 ?_)) | omega | (simp; done) | (simp; omega)))
  have ht1 := cell_later hb0 ht
  have hB_l := hB.lt; have hB_0 := hB.cell 0; have hB_1 := hB.cell 1; have hB_2 := hB.cell 2; have hB_3 := hB.cell 3; simp at hB_0 hB_1 hB_2 hB_3
  unfold encG
  go_enter Tryz.func59, Tryz.ntmps59
  go_wp2_with fail
  all_goals
    go_ret
    refine ⟨congrArg (fun b => Ending.returned (Value.bool b)) (?_ : _ = v), hb0⟩
    rw [HV.out, Bool.eq_iff_iff]
    simp at *
    try omega
set_option maxHeartbeats 4000000 in
theorem covOfClo_any (x : Gv) (bi bn i n : Nat) (w : World) (hi : w.cell? ⟨bi, 0, none⟩ = some (.int .i64 i)) (hn : w.cell? ⟨bn, 0, none⟩ = some (.int .i64 n)) (h1 : i ≤ 1000000000) (h2 : n ≤ 1000000000) :
    Calls Tryz.prog 61 #[encG x, .pointer (some ⟨bi, 0, none⟩), .pointer (some ⟨bn, 0, none⟩)] w (Gives (.bool (decide (x.2.1 < ((i + n : Nat) : Int)) && decide ((i : Int) < x.2.2.1))) w) := by
  obtain ⟨x1, x2, x3, x4⟩ := x
  simp only
  have hB := Box.new w 42 #[.int .i64 x1, .int .i64 x2, .int .i64 x3, .string x4]
  have hb0 : Below w.heap.size w (w.alloc (.cells #[.int .i64 x1, .int .i64 x2, .int .i64 x3, .string x4] 42)) := by (repeat' (first | exact Below.refl _ _ | assumption | refine Below.setCell ?_ ?_ _ | refine below_drewN ?_ _ | refine Below.drew ?_ | refine Below.alloc ?_ ?_ _ | (with_reducible refine Below.trans ?_ (Below.mono hb ?_)) | (with_reducible refine Below.trans ?_ (Below.mono hb0 ?_)) | (with_reducible refine Below.trans ?_ (Below.mono hb1 ?_)) | (with_reducible refine Below.trans ?_ (Below.mono hb2 ?_)) | (with_reducible refine Below.trans ?_ (Below.mono hb3 ?_)) | (with_reducible refine Below.trans ?_ (Below.mono hb4 ?_)) | (with_reducible refine Below.trans ?_ (Below.mono hb5 ?_)) | (with_reducible refine Below.trans ?_ (Below.mono hb6 ?_)) | (with_reducible refine Below.trans ?_ (Below.mono hb7 ?_)) | (with_reducible refine Below.trans ?_ (Below.mono hb8 ?_)) | (with_reducible refine Below.trans ?_ (Below.mono hb9 ?_)) | (with_reducible refine Below.trans ?_ (Below.mono hb10 ?_)) | (with_reducible refine Below.trans ?_ (Below.mono hb11 ?_)) | (with_reducible refine Below.trans ?_ (Below.mono hb12 ?_)) | (with_reducible refine Below.trans ?_ (Below.mono hb13 ?_)) | (with_reducible refine Below.trans ?_ (Below.mono hb14 ?_)) | (with_reducible refine Below.trans ?_ (Below.mono hb15 ?_)) | omega | (simp; done) | (simp; omega)))
  have hi1 := cell_later hb0 hi
  have hn1 := cell_later hb0 hn
  have hB_l := hB.lt; have hB_0 := hB.cell 0; have hB_1 := hB.cell 1; have hB_2 := hB.cell 2; have hB_3 := hB.cell 3; simp at hB_0 hB_1 hB_2 hB_3
  obtain ⟨m, hm⟩ : ∃ m, i + n = m := ⟨_, rfl⟩
  have hw : IntKind.i64.wrap ((i : Int) + (n : Int)) = (m : Int) := by rw [IntWalk.i64_in _ (by omega)]; omega
  rw [hm]
  clear hm hi hn h1 h2
  unfold encG
  by_cases hx2 : x2 < (m : Int)
  · rw [decide_eq_true hx2, Bool.true_and]
    go_enter Tryz.func61, Tryz.ntmps61
    go_wp2_with fail
    go_ret
    exact ⟨rfl, hb0⟩
  · rw [decide_eq_false hx2, Bool.false_and]
    go_enter Tryz.func61, Tryz.ntmps61
    go_wp2_with fail
    go_ret
    exact ⟨rfl, hb0⟩
set_option maxHeartbeats 4000000 in
theorem coverFault_any (s : ByteArray) (gs : List Gv) (ga : Option Addr) (gc : Nat) (w : World) (hE : Env w) (hs : s.size ≤ 1000000) (hg : SA w ga gs) (hl : gs.length ≤ 1000000) :
    Calls Tryz.prog 16 #[.string s, .slice ga gs.length gc] w (Gives (.int .i64 (coverE s gs)) w) := by
  have hb0 : Below w.heap.size w (w.alloc (.cells #[.string s] 9)) := by (repeat' (first | exact Below.refl _ _ | assumption | refine Below.setCell ?_ ?_ _ | refine below_drewN ?_ _ | refine Below.drew ?_ | refine Below.alloc ?_ ?_ _ | (with_reducible refine Below.trans ?_ (Below.mono hb ?_)) | (with_reducible refine Below.trans ?_ (Below.mono hb0 ?_)) | (with_reducible refine Below.trans ?_ (Below.mono hb1 ?_)) | (with_reducible refine Below.trans ?_ (Below.mono hb2 ?_)) | (with_reducible refine Below.trans ?_ (Below.mono hb3 ?_)) | (with_reducible refine Below.trans ?_ (Below.mono hb4 ?_)) | (with_reducible refine Below.trans ?_ (Below.mono hb5 ?_)) | (with_reducible refine Below.trans ?_ (Below.mono hb6 ?_)) | (with_reducible refine Below.trans ?_ (Below.mono hb7 ?_)) | (with_reducible refine Below.trans ?_ (Below.mono hb8 ?_)) | (with_reducible refine Below.trans ?_ (Below.mono hb9 ?_)) | (with_reducible refine Below.trans ?_ (Below.mono hb10 ?_)) | (with_reducible refine Below.trans ?_ (Below.mono hb11 ?_)) | (with_reducible refine Below.trans ?_ (Below.mono hb12 ?_)) | (with_reducible refine Below.trans ?_ (Below.mono hb13 ?_)) | (with_reducible refine Below.trans ?_ (Below.mono hb14 ?_)) | (with_reducible refine Below.trans ?_ (Below.mono hb15 ?_)) | omega | (simp; done) | (simp; omega)))
  have HB := Lib.hid (fun W h => bodyFault_any s W h (by omega))
  have HE : Hid (coverE s gs = if bodyE s ≠ 0 then bodyE s else if gs.any (giveB s.size) = true then 1 else 0) := rfl
  have hbt := Box.new w 9 #[.string s]
  have c0 : (w.alloc (.cells #[.string s] 9)).cell? ⟨w.heap.size, 0, none⟩ = some (.string s) := hbt.cell 0
  have HF := Lib.hid (fun W (h : Below (w.alloc (.cells #[.string s] 9)).heap.size (w.alloc (.cells #[.string s] 9)) W) => findGive_any gs ga gc 59 #[.pointer (some ⟨w.heap.size, 0, none⟩)] (giveB s.size) W (enters_of Tryz.func59 (by kernel_rfl) rfl) ((hg.below hb0).below h) (by omega) (fun x _ W' h' => covFaultClo_any x _ s W' (cell_later (below_next h h') c0) (by omega)))
  have hE0 := hE.below hb0
  generalize coverE s gs = ce at *
  generalize bodyE s = be at *
  go_enter Tryz.func16, Tryz.ntmps16
  go_wp2_with fail
  refine (HB.out _ hE0).mono ?_
  rintro e w1 ⟨rfl, hb1⟩
  have hb01 := below_next hb0 hb1
  by_cases hbe : be = 0
  · subst hbe
    have HE2 := Lib.hid (HE.out.trans (if_neg (by decide)))
    clear HE
    have HF1 := Lib.hid (HF.out w1 hb1)
    clear HF
    cases hany : gs.any (giveB s.size)
    · rw [hany] at HF1 HE2
      have hce : ce = 0 := HE2.out.trans (if_neg (by decide))
      subst hce
      go_wp2_with fail
      refine HF1.out.mono ?_
      rintro e w2 ⟨rfl, hb2⟩
      go_wp2_with fail
      go_ret
      exact ⟨rfl, below_next hb01 hb2⟩
    · rw [hany] at HF1 HE2
      have hce : ce = 1 := HE2.out.trans (if_pos rfl)
      subst hce
      go_wp2_with fail
      refine HF1.out.mono ?_
      rintro e w2 ⟨rfl, hb2⟩
      go_wp2_with fail
      go_ret
      exact ⟨rfl, below_next hb01 hb2⟩
  · have hce : ce = be := HE.out.trans (if_pos hbe)
    subst hce
    clear HE HF
    go_wp2_with fail
    go_ret
    exact ⟨rfl, hb01⟩
theorem app_list (a b : ByteArray) : (a ++ b).data.toList = a.data.toList ++ b.data.toList := by simp
theorem overG_any (gs : List Gv) (a b : Nat) : gs.any (fun g => decide (g.2.1 < (b : Int)) && decide ((a : Int) < g.2.2.1)) = overG gs a b := rfl
theorem repeat_x (n : Nat) : (⟨(Lib.repeatL (⟨#[120]⟩ : ByteArray).data.toList n).toArray⟩ : ByteArray).data.toList = List.replicate n 120 := by
  show (Lib.repeatL [120] n) = _
  induction n with
  | zero => rfl
  | succ n ih => rw [List.replicate_succ]; show [120] ++ Lib.repeatL [120] n = _; rw [ih]; rfl
set_option maxRecDepth 100000 in
set_option maxHeartbeats 16000000 in
theorem coverOf_any (s : ByteArray) (gs : List Gv) (ga : Option Addr) (gc : Nat) (w : World) (hE : Env w) (hs : s.size ≤ 1000000) (hg : SA w ga gs) (hl : gs.length ≤ 1000000) :
    Calls Tryz.prog 18 #[.string s, .slice ga gs.length gc] w (Gives (.string (covS s (overG gs))) w) := by
  have HDc := Lib.hid (fun W i (h : Env W) => decode_any (s.extract i s.size) W h)
  have HIw := Lib.hid (fun c W (h : c < 256) => wordByte_any c W h)
  have HNo : Hid (∀ i, (wAt s i && overG gs i (i + runeAt s i)) = false → covP s (overG gs) i = (s.extract i (i + runeAt s i)).data.toList) := fun i h => by unfold covP; rw [if_neg (by rw [h]; decide)]
  have HYe : Hid (∀ i, (wAt s i && overG gs i (i + runeAt s i)) = true → covP s (overG gs) i = List.replicate (runeAt s i) 120) := fun i h => by unfold covP; rw [if_pos h]
  have HNx := Lib.hid (fun i o (h : CovAt s (overG gs) i o) (hi : i < s.size) => h.next hi)
  have HDn := Lib.hid (fun i o (h : CovAt s (overG gs) i o) (hi : ¬ i < s.size) => h.done hi)
  have HRp := Lib.hid (fun i (h : i < s.size) => And.intro (runeAt_pos h) (runeAt_le s i h))
  have HRn : Hid (∀ i, runeN (s.extract i s.size) = runeAt s i) := fun i => rfl
  have Hcv : Hid (covS s (overG gs) = ⟨(covL s (overG gs)).toArray⟩) := rfl
  have Hc0 := Lib.hid (CovAt.start s (overG gs))
  have HFd := Lib.hid (fun (ib bn k n : Nat) W (hw : Below w.heap.size w W) (h1 : W.cell? ⟨ib, 0, none⟩ = some (.int .i64 k)) (h2 : W.cell? ⟨bn, 0, none⟩ = some (.int .i64 n)) (h3 : k ≤ 1000000000) (h4 : n ≤ 1000000000) => findGive_any gs ga gc 61 #[.pointer (some ⟨ib, 0, none⟩), .pointer (some ⟨bn, 0, none⟩)] (fun g => decide (g.2.1 < ((k + n : Nat) : Int)) && decide ((k : Int) < g.2.2.1)) W (enters_of Tryz.func61 (by kernel_rfl) rfl) (hg.below hw) (by omega) (fun x _ W' h' => covOfClo_any x ib bn k n W' (cell_later h' h1) (cell_later h' h2) h3 h4))
  go_enter Tryz.func18, Tryz.ntmps18
  go_wp2_with fail
  go_loopg [5, 6] s.size (fun gk ov iv wr => ∃ (k ib : Nat) (ob : ByteArray), ov = .string ob ∧ iv = .pointer (some ⟨ib, 0, none⟩) ∧ k ≤ s.size ∧ Hid (gk = s.size - k) ∧ Hid (CovAt s (overG gs) k ob.data.toList) ∧ Box wr ib 3 #[.int .i64 k] ∧ w.heap.size ≤ ib ∧ Below w.heap.size w wr)
  case atStart => exact ⟨0, _, ⟨#[]⟩, rfl, rfl, by omega, rfl, Hc0.out, Box.new _ _ _, Nat.le_refl _, (Below.refl _ _).alloc (Nat.le_refl _) _⟩
  clear Hc0
  obtain ⟨k, ib, ob, rfl, rfl, hk, hgk, hca, hBi, hib, hb⟩ := hrel
  have ci := hBi.cell 0
  simp at ci
  by_cases hlt : k < s.size
  · have hEr := hE.below hb
    have HD := Lib.hid (HDc.out wr k hEr)
    rw [HRn.out k] at HD
    obtain ⟨hp1, hp2⟩ := HRp.out k hlt
    have Hno := Lib.hid (HNo.out k)
    have Hye := Lib.hid (HYe.out k)
    have hnx := Lib.hid (HNx.out k _ hca.out hlt)
    have hwa := wAt_in hlt
    have HFk := Lib.hid (fun bn W => HFd.out ib bn k (runeAt s k) W)
    generalize covP s (overG gs) k = cp1 at *
    generalize runeAt s k = n at *
    generalize (Lib.decodeGo (s.extract k s.size)).1 = rr at *
    have hcl := s[k].toNat_lt
    generalize hcc : s[k].toNat = c at *
    have HI := Lib.hid (fun W => HIw.out c W (by omega))
    rw [hwa] at Hno Hye
    clear hwa
    have hk1 : (0 : Int) ≤ (k : Int) := by omega
    have hk2 : (k : Int) < (s.size : Int) := by omega
    have hk3 : (k : Int) ≤ (s.size : Int) := by omega
    obtain ⟨kn, hkn⟩ : ∃ kn, k + n = kn := ⟨_, rfl⟩
    have hwkn : IntKind.i64.wrap ((k : Int) + (n : Int)) = (kn : Int) := by rw [IntWalk.i64_in _ (by omega)]; omega
    rw [hkn] at Hno Hye hnx hp2
    have hp3 : (kn : Int) ≤ (s.size : Int) := by omega
    have hp4 : (k : Int) ≤ (kn : Int) := by omega
    have hn6 : n ≤ 1000000 := by omega
    have hob : ob.size ≤ 1000000 := by have h1 := hca.out.1; have h2 : ob.size = ob.data.toList.length := by simp
                                       omega
    have hex : (s.extract k kn).size ≤ 1000000 := by rw [ByteArray.size_extract]; omega
    go_wp2_with fail
    refine HD.out.mono ?_
    rintro e w3 ⟨rfl, hb3⟩
    have hBi4 := (hBi.below hb3).alloc (.cells #[.int .i64 n] 3)
    have hBn4 := Box.new w3 3 #[.int .i64 n]
    have hb04 := (below_next hb hb3).alloc (below_next hb hb3).size (.cells #[.int .i64 n] 3)
    have hz3 := hb3.size
    have hilt := hBi.lt
    have ci4 : _ = some (Value.int .i64 (k : Int)) := hBi4.cell 0
    have cn4 : _ = some (Value.int .i64 (n : Int)) := hBn4.cell 0
    have HF := Lib.hid (HFk.out w3.heap.size _ hb04 ci4 cn4 (by omega) (by omega))
    rw [hkn, overG_any gs k kn] at HF
    have Hkn := Lib.hid hkn
    clear hkn hBi hb hb3 HD hEr HFk ci
    generalize hov : overG gs k kn = ov at *
    clear hov
    cases ov
    · have hno := Hno.out (by simp)
      go_wp2_with fail
      refine HF.out.mono ?_
      rintro e w5 ⟨rfl, hb5⟩
      have hBi5 := hBi4.below hb5
      have hBn5 := hBn4.below hb5
      have hb05 := below_next hb04 hb5
      have hBi5_l := hBi5.lt; have hBi5_0 := hBi5.cell 0; simp at hBi5_0
      have hBi5_f0 := hBi5.frozen 0
      have hBn5_l := hBn5.lt; have hBn5_0 := hBn5.cell 0; simp at hBn5_0
      have hb6 := (hb05.setCell (p := ⟨ib, 0, none⟩) hib (.int .i64 kn)).alloc (by have := hb05.size; simpa [World.setCell] using this) (.cells #[.int .i64 kn] 3)
      have hz5 := hb05.size
      go_wp2_with fail
      go_roundg (s.size - kn)
      case measure => have := hgk.out; have := Hkn.out; omega
      case rel => exact ⟨kn, _, _, rfl, rfl, by omega, rfl, by rw [app_list, ← hno]; exact hnx.out, by first | exact Box.new _ _ _ | exact Box.newAt _ _ _ _ (by simp [World.setCell]), by omega, hb6⟩
    · cases hwc : wordC c
      · rw [hwc] at HI Hno
        have hno := Hno.out rfl
        clear hwc
        go_wp2_with fail
        refine HF.out.mono ?_
        rintro e w5 ⟨rfl, hb5⟩
        have hBi5 := hBi4.below hb5
        have hBn5 := hBn4.below hb5
        have hb05 := below_next hb04 hb5
        have ci5 : _ = some (Value.int .i64 (k : Int)) := hBi5.cell 0
        go_wp2_with fail
        refine (HI.out _).mono ?_
        rintro e w6 ⟨rfl, rfl⟩
        have hBi5_l := hBi5.lt; have hBi5_0 := hBi5.cell 0; simp at hBi5_0
        have hBi5_f0 := hBi5.frozen 0
        have hBn5_l := hBn5.lt; have hBn5_0 := hBn5.cell 0; simp at hBn5_0
        have hb6 := (hb05.setCell (p := ⟨ib, 0, none⟩) hib (.int .i64 kn)).alloc (by have := hb05.size; simpa [World.setCell] using this) (.cells #[.int .i64 kn] 3)
        have hz5 := hb05.size
        go_wp2_with fail
        go_roundg (s.size - kn)
        case measure => have := hgk.out; have := Hkn.out; omega
        case rel => exact ⟨kn, _, _, rfl, rfl, by omega, rfl, by rw [app_list, ← hno]; exact hnx.out, by first | exact Box.new _ _ _ | exact Box.newAt _ _ _ _ (by simp [World.setCell]), by omega, hb6⟩
      · rw [hwc] at HI Hye
        have hye := Hye.out rfl
        clear hwc
        have HR := Lib.hid (fun W => Tryz.strings_Repeat ⟨#[120]⟩ n W (by omega) (by show 1 * n ≤ _; omega))
        have hrx := repeat_x n
        generalize (⟨(Lib.repeatL (⟨#[120]⟩ : ByteArray).data.toList n).toArray⟩ : ByteArray) = xs at *
        have hxz : xs.size ≤ 1000000 := by have h1 := congrArg List.length hrx; have h2 : xs.size = xs.data.toList.length := by simp
                                           rw [List.length_replicate] at h1; omega
        go_wp2_with fail
        refine HF.out.mono ?_
        rintro e w5 ⟨rfl, hb5⟩
        have hBi50 := hBi4.below hb5
        have hBn50 := hBn4.below hb5
        have ci5 : _ = some (Value.int .i64 (k : Int)) := hBi50.cell 0
        have cn5 : _ = some (Value.int .i64 (n : Int)) := hBn50.cell 0
        go_wp2_with fail
        refine (HI.out _).mono ?_
        rintro e w6 ⟨rfl, rfl⟩
        go_wp2_with fail
        refine (HR.out _).mono ?_
        rintro e w7 ⟨rfl, hb7⟩
        have hBi5 := hBi50.below hb7
        have hBn5 := hBn50.below hb7
        have hb05 := below_next (below_next hb04 hb5) hb7
        clear hBi50 hBn50 ci5 cn5
        have hBi5_l := hBi5.lt; have hBi5_0 := hBi5.cell 0; simp at hBi5_0
        have hBi5_f0 := hBi5.frozen 0
        have hBn5_l := hBn5.lt; have hBn5_0 := hBn5.cell 0; simp at hBn5_0
        have hb6 := (hb05.setCell (p := ⟨ib, 0, none⟩) hib (.int .i64 kn)).alloc (by have := hb05.size; simpa [World.setCell] using this) (.cells #[.int .i64 kn] 3)
        have hz5 := hb05.size
        go_wp2_with fail
        go_roundg (s.size - kn)
        case measure => have := hgk.out; have := Hkn.out; omega
        case rel => exact ⟨kn, _, _, rfl, rfl, by omega, rfl, by rw [app_list, hrx.trans hye.symm]; exact hnx.out, by first | exact Box.new _ _ _ | exact Box.newAt _ _ _ _ (by simp [World.setCell]), by omega, hb6⟩
  · obtain rfl : k = s.size := by omega
    have hdo := HDn.out _ _ hca.out hlt
    have hres : covS s (overG gs) = ob := by rw [Hcv.out, ← hdo]
    go_wp2_with fail
    go_ret
    exact ⟨by rw [hres] <;> rfl, hb⟩
end Go.Proofs.YthajoedabjfaaaaGreatDoor
