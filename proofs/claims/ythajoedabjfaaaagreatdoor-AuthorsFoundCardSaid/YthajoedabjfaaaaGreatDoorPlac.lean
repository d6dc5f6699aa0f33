/- Where words follow one another: of the program. -/
import Derived.Test.YthajoedabjfaaaaGreatDoorAuthQ
import Derived.Test.YthajoedabjfaaaaGreatDoorWord1
import Derived.Test.YthajoedabjfaaaaGreatDoorKeep
import Derived.Test.YthajoedabjfaaaaGreatDoorReg
import Derived.Test.YthajoedabjfaaaaGreatDoorRegF
import Derived.Test.YthajoedabjfaaaaGreatDoorEnv
import Derived.Test.YthajoedabjfaaaaGreatDoorList
/-! Where words follow one another: of the program. -/
namespace Go.Proofs.YthajoedabjfaaaaGreatDoor
open Go.RowKit
set_option linter.unusedVariables false
set_option linter.unusedSimpArgs false

/-- The first q words agree. -/
def sameTo (ws w : List ByteArray) (k q : Nat) : Bool := decide ((ws.drop k).take q = w.take q)
theorem sameTo_zero (ws w : List ByteArray) (k : Nat) : sameTo ws w k 0 = true := decide_eq_true (by simp)
theorem sameTo_all (ws w : List ByteArray) (k : Nat) : sameTo ws w k w.length = fitAt ws w k := by unfold sameTo fitAt; rw [List.take_length]
theorem take_succ_iff {α : Type} {l m : List α} {q : Nat} (h1 : q < l.length) (h2 : q < m.length) : l.take (q + 1) = m.take (q + 1) ↔ l.take q = m.take q ∧ l[q] = m[q] := by
  rw [List.take_succ_eq_append_getElem h1, List.take_succ_eq_append_getElem h2]
  constructor
  · intro h
    have := List.append_inj' h rfl
    exact ⟨this.1, by simpa using this.2⟩
  · rintro ⟨h3, h4⟩
    rw [h3, h4]
theorem sameTo_succ {ws w : List ByteArray} {k q : Nat} (h1 : k + q < ws.length) (h2 : q < w.length) : sameTo ws w k (q + 1) = (sameTo ws w k q && decide (ws[k + q] = w[q])) := by
  unfold sameTo
  rw [Bool.eq_iff_iff, Bool.and_eq_true, decide_eq_true_eq, decide_eq_true_eq, decide_eq_true_eq, take_succ_iff (by rw [List.length_drop]; omega) h2, List.getElem_drop]
theorem wordT_at {s : ByteArray} {i : Nat} (h : i < (wordsT s).length) (h' : i < (wordsS s).length) : (wordsT s)[i] = ((wordsS s)[i], (frA s i : Int), (toA s i : Int)) := by
  have hl : i < (spots s).length := by rw [← wordsS_length]; exact h'
  have e := spot_at hl
  have e2 : (wordsS s)[i] = lowS (s.extract (frA s i) (toA s i)) := by
    apply Option.some.inj
    rw [← List.getElem?_eq_getElem h']
    unfold wordsS
    rw [List.getElem?_map, List.getElem?_eq_getElem hl, e]
    rfl
  rw [e2]
  apply Option.some.inj
  rw [← List.getElem?_eq_getElem h]
  unfold wordsT
  rw [List.getElem?_map, List.getElem?_eq_getElem hl, e]
  rfl
theorem wordsT_length (s : ByteArray) : (wordsT s).length = (wordsS s).length := by unfold wordsT wordsS; rw [List.length_map, List.length_map]
/-- The cells of a word in the program's list. -/
theorem SA.wrdT {w : World} {a : Option Addr} {s : ByteArray} (h : SA w a (wordsT s)) {i : Nat} (hi : i < (wordsS s).length) :
    ∃ b off, a = some ⟨b, off, none⟩ ∧ w.cell? ⟨b, off + i * 3, none⟩ = some (.string (wordsS s)[i]) ∧ w.cell? ⟨b, off + i * 3 + 1, none⟩ = some (.int .i64 (frA s i)) ∧ w.cell? ⟨b, off + i * 3 + 2, none⟩ = some (.int .i64 (toA s i)) := by
  have hi' : i < (wordsT s).length := by rw [wordsT_length]; exact hi
  obtain ⟨b, off, ha, c0, c1, c2⟩ := h.wrd hi'
  rw [wordT_at hi' hi] at c0 c1 c2
  exact ⟨b, off, ha, c0, c1, c2⟩
set_option maxRecDepth 100000 in
set_option maxHeartbeats 16000000 in
theorem places_any (s : ByteArray) (l : List ByteArray) (ta la : Option Addr) (tc lc : Nat) (w : World) (hs : s.size ≤ 1000000) (ht : SA w ta (wordsT s)) (hl : SA w la l) (hne : 1 ≤ l.length) (hw : l.length ≤ 1000000) :
    Calls Tryz.prog 36 #[.slice ta (wordsT s).length tc, .slice la l.length lc] w (GivesOwn 40 (findS s l) w) := by
  have hn : (wordsS s).length ≤ 1000001 := by have := spots_len s; rw [wordsS_length]; omega
  have HSt := Lib.hid (fun k q (h1 : k + q < (wordsS s).length) (h2 : q < l.length) => sameTo_succ h1 h2)
  have HTc := Lib.hid (fun w' (h : SA w' ta (wordsT s)) i (hi : i < (wordsS s).length) => h.wrdT hi)
  have Hfy := Lib.hid (fun k (h : fitAt (wordsS s) l k = true) => findTo_yes h)
  have Hfn := Lib.hid (fun k (h : fitAt (wordsS s) l k = false) => findTo_no h)
  have Hfl := Lib.hid (findTo_len s l)
  have Hsa := Lib.hid (sameTo_all (wordsS s) l)
  have Hbd : Hid (∀ i, i < (wordsS s).length → toA s i ≤ 1000000) := fun i hi => by rw [wordsS_length] at hi; have := (spot_bd hi).2; omega
  have Hbd2 : Hid (∀ i, i < (wordsS s).length → frA s i ≤ 1000000) := fun i hi => by rw [wordsS_length] at hi; have := spot_bd hi; omega
  have Hfin : Hid (findS s l = findTo s l ((wordsS s).length + 1 - l.length)) := rfl
  have hlT : (wordsT s).length = (wordsS s).length := wordsT_length s
  rw [hlT]
  generalize findS s l = res at *
  generalize wordsT s = wt at *
  generalize wordsS s = ws at *
  generalize frA s = fr at *
  generalize toA s = tt at *
  clear hs hlT
  go_enter Tryz.func36, Tryz.ntmps36
  go_wp2_with fail
  go_loopg [5, 6] (ws.length + 1 - l.length) (fun gk v i wr => ∃ k : Nat, i = .int .i64 k ∧ k ≤ ws.length + 1 - l.length ∧ Hid (gk = ws.length + 1 - l.length - k) ∧ Own w.heap.size 40 wr v (findTo s l k) ∧ Below w.heap.size w wr)
  case atStart => exact ⟨0, rfl, by omega, rfl, Own.nil _ _ _, Below.refl _ _⟩
  obtain ⟨k, rfl, hk, hgk, hown, hb⟩ := hrel
  have hzr := hb.size
  have hwk : IntKind.i64.wrap ((k : Int) + (l.length : Int)) = (k : Int) + (l.length : Int) := IntWalk.i64_in _ (by omega)
  by_cases hlt : k < ws.length + 1 - l.length
  · have hle : (k : Int) + (l.length : Int) ≤ (ws.length : Int) := by omega
    have hdl : decide ((k : Int) + (l.length : Int) ≤ (ws.length : Int)) = true := decide_eq_true hle
    go_wp2_with fail
    generalize wr = W2 at *
    go_loopg [7, 21] l.length (fun gm sm i wr => ∃ q : Nat, i = .int .i64 q ∧ q ≤ l.length ∧ Hid (gm = l.length - q) ∧ sm = .bool (sameTo ws l k q) ∧ wr = W2)
    case atStart => exact ⟨0, rfl, by omega, rfl, by rw [sameTo_zero], rfl⟩
    case round =>
      obtain ⟨q, rfl, hq, hgm, rfl, rfl⟩ := hrel
      by_cases hlq : q < l.length
      · have hkq : k + q < ws.length := by omega
        have HS := Lib.hid (HSt.out k q hkq hlq)
        obtain ⟨tb, tf, hte, c0, c1, c2⟩ := HTc.out wr (ht.below hb) (k + q) hkq
        obtain ⟨lb, lo, hle2, d0⟩ := (hl.below hb).str hlq
        have Hte := Lib.hid hte
        have Hle := Lib.hid hle2
        rw [hte, hle2]
        clear hte hle2 c1 c2
        have hbq := toList_beq ws[k + q] l[q]
        generalize ws[k + q] = xw at *
        generalize l[q] = yw at *
        obtain ⟨s2, hs2e⟩ : ∃ s2, sameTo ws l k (q + 1) = s2 := ⟨_, rfl⟩
        rw [hs2e] at HS
        have Hs2e := Lib.hid hs2e
        clear hs2e
        generalize sameTo ws l k q = s1 at *
        obtain ⟨kq, hkq2⟩ : ∃ kq, k + q = kq := ⟨_, rfl⟩
        have hw2 : IntKind.i64.wrap ((k : Int) + (q : Int)) = (kq : Int) := by rw [IntWalk.i64_in _ (by omega)]; omega
        rw [hkq2] at c0 hkq
        clear hkq2 hdl hle
        have hk1 : (0 : Int) ≤ (kq : Int) := by omega
        have hk2 : (kq : Int) < (ws.length : Int) := by omega
        have hq1 : (0 : Int) ≤ (q : Int) := by omega
        have hq2 : (q : Int) < (l.length : Int) := by omega
        generalize decide (xw = yw) = dq at *
        cases s1
        · rw [Bool.false_and] at HS
          have hs2 := HS.out
          clear HS
          subst hs2
          go_wp2_with fail
          rw [← Hte.out, ← Hle.out]
          go_roundg (l.length - (q + 1))
          case measure => have := hgm.out; omega
          case rel => exact ⟨q + 1, by go_num, by omega, rfl, by rw [Hs2e.out], rfl⟩
        · rw [Bool.true_and] at HS
          have hs2 := HS.out
          clear HS
          subst hs2
          go_wp2_with fail
          rw [← Hte.out, ← Hle.out]
          go_roundg (l.length - (q + 1))
          case measure => have := hgm.out; omega
          case rel => exact ⟨q + 1, by go_num, by omega, rfl, by rw [Hs2e.out], rfl⟩
      · obtain rfl : q = l.length := by omega
        rw [Hsa.out k]
        have Hy := Lib.hid (Hfy.out k)
        have Hn := Lib.hid (Hfn.out k)
        cases hf : fitAt ws l k
        · rw [hf] at Hn
          have Hn2 := Lib.hid (Hn.out rfl)
          go_wp2_with fail
          go_roundg (ws.length + 1 - l.length - (k + 1))
          case measure => have := hgk.out; omega
          case rel => exact ⟨k + 1, by go_num, by omega, rfl, by rw [Hn2.out]; exact hown, hb⟩
        · rw [hf] at Hy
          have Hy2 := Lib.hid (Hy.out rfl)
          have hfl := Hfl.out k
          obtain ⟨kl, hkl⟩ : ∃ kl, k + l.length - 1 = kl := ⟨_, rfl⟩
          rw [hkl] at Hy2
          obtain ⟨tb, tf, hte, c0, c1, c2⟩ := HTc.out wr (ht.below hb) k (by omega)
          obtain ⟨tb2, tf2, hte2, e0, e1, e2⟩ := HTc.out wr (ht.below hb) kl (by omega)
          rw [hte] at hte2
          cases hte2
          have hw3 : IntKind.i64.wrap ((k : Int) + (l.length : Int) - 1) = (kl : Int) := by rw [IntWalk.i64_in _ (by omega)]; omega
          have hk1 : (0 : Int) ≤ (k : Int) := by omega
          have hk2 : (k : Int) < (ws.length : Int) := by omega
          have hk3 : (0 : Int) ≤ (kl : Int) := by omega
          have hk4 : (kl : Int) < (ws.length : Int) := by omega
          have Hte := Lib.hid hte
          rw [hte]
          clear hte c0 c2 e0 e1 hkl
          generalize fr k = f1 at *
          generalize tt kl = f2 at *
          obtain ⟨A2, hA2⟩ : ∃ A2, findTo s l (k + 1) = A2 := ⟨_, rfl⟩
          rw [hA2] at Hy2
          have HA2 := Lib.hid hA2
          clear hA2
          generalize findTo s l k = A1 at *
          have htb : tb < w.heap.size := by
            obtain ⟨tb3, tf3, hte3, z0, z1, z2⟩ := HTc.out w ht k (by omega)
            rw [Hte.out] at hte3
            cases hte3
            exact cell_lt z0
          have HlO := Lib.hid hown.lt
          have hp1 : ¬ u5.ownBlock = some tb := fun e => by have := (HlO.out _ e).1; omega
          have HS : Hid (∀ wx, Kp (fun b => u5.ownBlock = some b) wr wx → (wx.cell? ⟨tb, tf + k * 3 + 1, none⟩ = some (.int .i64 f1) ∧ wx.cell? ⟨tb, tf + kl * 3 + 2, none⟩ = some (.int .i64 f2))) := fun wx h => ⟨cellKp h hp1 c1, cellKp h hp1 e2⟩
          clear c1 e2 hp1
          have hoA := hown.drew.alloc (.cells #[.int .i64 f1, .int .i64 f2] 40)
          have hbA : Below w.heap.size w (wr.drew.alloc (.cells #[.int .i64 f1, .int .i64 f2] 40)) := by (repeat' (first | exact Below.refl _ _ | assumption | refine Below.setCell ?_ ?_ _ | refine below_drewN ?_ _ | refine Below.drew ?_ | refine Below.alloc ?_ ?_ _ | (with_reducible refine Below.trans ?_ (Below.mono hb ?_)) | (with_reducible refine Below.trans ?_ (Below.mono hb0 ?_)) | (with_reducible refine Below.trans ?_ (Below.mono hb1 ?_)) | (with_reducible refine Below.trans ?_ (Below.mono hb2 ?_)) | (with_reducible refine Below.trans ?_ (Below.mono hb3 ?_)) | (with_reducible refine Below.trans ?_ (Below.mono hb4 ?_)) | (with_reducible refine Below.trans ?_ (Below.mono hb5 ?_)) | (with_reducible refine Below.trans ?_ (Below.mono hb6 ?_)) | (with_reducible refine Below.trans ?_ (Below.mono hb7 ?_)) | (with_reducible refine Below.trans ?_ (Below.mono hb8 ?_)) | (with_reducible refine Below.trans ?_ (Below.mono hb9 ?_)) | (with_reducible refine Below.trans ?_ (Below.mono hb10 ?_)) | (with_reducible refine Below.trans ?_ (Below.mono hb11 ?_)) | (with_reducible refine Below.trans ?_ (Below.mono hb12 ?_)) | (with_reducible refine Below.trans ?_ (Below.mono hb13 ?_)) | (with_reducible refine Below.trans ?_ (Below.mono hb14 ?_)) | (with_reducible refine Below.trans ?_ (Below.mono hb15 ?_)) | omega | (simp; done) | (simp; omega)))
          have hkA := (Kp.refl (fun b => u5.ownBlock = some b) wr).drew.alloc (.cells #[.int .i64 f1, .int .i64 f2] 40)
          clear hown
          go_upto_region 12 with (fail)
          refine wp_region_held_drew (S := (fun wx => wx.cell? ⟨tb, tf + k * 3 + 1, none⟩ = some (.int .i64 f1) ∧ wx.cell? ⟨tb, tf + kl * 3 + 2, none⟩ = some (.int .i64 f2))) (by kernel_rfl) ?hS (fun hHeld => ?_)
          case hS => exact HS.out _ (Kp.refl _ _).drew
          refine rtake (i := 0) (d := (some 40)) (v := ?_) rfl (by kernel_rfl) (by kernel_rfl) (by kernel_rfl) (by kernel_rfl) (fun _ _ _ h => h) (by kernel_rfl) (by assumption) ?_ ?_
          rotate_left 1
          · (intro wI hSI; (try dsimp only at hSI); go_simp; (try with_reducible rfl))
          simp only [Act.put, List.setIfInBounds_toArray, List.set_cons_zero, List.set_cons_succ]
          refine rtake (i := 1) (d := (some 41)) (v := ?_) rfl (by kernel_rfl) (by kernel_rfl) (by kernel_rfl) (by kernel_rfl) (fun _ _ _ h => h) (by kernel_rfl) (by assumption) ?_ ?_
          rotate_left 1
          · (intro wI hSI; (try dsimp only at hSI); go_simp; (try with_reducible rfl))
          simp only [Act.put, List.setIfInBounds_toArray, List.set_cons_zero, List.set_cons_succ]
          refine rtake (i := 2) (d := (some 42)) (v := ?_) rfl (by kernel_rfl) (by kernel_rfl) (by kernel_rfl) (by kernel_rfl) (fun _ _ _ h => h) (by kernel_rfl) (by assumption) ?_ ?_
          rotate_left 1
          · (intro wI hSI; (try dsimp only at hSI); go_simp; (try with_reducible rfl))
          simp only [Act.put, List.setIfInBounds_toArray, List.set_cons_zero, List.set_cons_succ]
          refine rtake (i := 3) (d := (some 43)) (v := ?_) rfl (by kernel_rfl) (by kernel_rfl) (by kernel_rfl) (by kernel_rfl) (fun _ _ _ h => h) (by kernel_rfl) (by assumption) ?_ ?_
          rotate_left 1
          · (intro wI hSI; (try dsimp only at hSI); go_simp; (try with_reducible rfl))
          simp only [Act.put, List.setIfInBounds_toArray, List.set_cons_zero, List.set_cons_succ]
          refine rtake (i := 4) (d := (some 44)) (v := ?_) rfl (by kernel_rfl) (by kernel_rfl) (by kernel_rfl) (by kernel_rfl) (fun _ _ _ h => h) (by kernel_rfl) (by assumption) ?_ ?_
          rotate_left 1
          · (intro wI hSI; (try dsimp only at hSI); go_simp; (try with_reducible rfl))
          simp only [Act.put, List.setIfInBounds_toArray, List.set_cons_zero, List.set_cons_succ]
          refine rtake (i := 5) (d := (some 45)) (v := ?_) rfl (by kernel_rfl) (by kernel_rfl) (by kernel_rfl) (by kernel_rfl) (fun _ _ _ h => h) (by kernel_rfl) (by assumption) ?_ ?_
          rotate_left 1
          · (intro wI hSI; (try dsimp only at hSI); go_simp; (try with_reducible rfl))
          simp only [Act.put, List.setIfInBounds_toArray, List.set_cons_zero, List.set_cons_succ]
          refine rtake (i := 6) (d := (some 46)) (v := ?_) rfl (by kernel_rfl) (by kernel_rfl) (by kernel_rfl) (by kernel_rfl) (fun _ _ _ h => h) (by kernel_rfl) (by assumption) ?_ ?_
          rotate_left 1
          · (intro wI hSI; (try dsimp only at hSI); go_simp; (try with_reducible rfl))
          simp only [Act.put, List.setIfInBounds_toArray, List.set_cons_zero, List.set_cons_succ]
          refine rtake (i := 7) (d := (some 47)) (v := ?_) rfl (by kernel_rfl) (by kernel_rfl) (by kernel_rfl) (by kernel_rfl) (fun _ _ _ h => h) (by kernel_rfl) (by assumption) ?_ ?_
          rotate_left 1
          · (intro wI hSI; (try dsimp only at hSI); go_simp; (try with_reducible rfl))
          simp only [Act.put, List.setIfInBounds_toArray, List.set_cons_zero, List.set_cons_succ]
          refine rtake (i := 8) (d := (some 48)) (v := ?_) rfl (by kernel_rfl) (by kernel_rfl) (by kernel_rfl) (by kernel_rfl) (fun _ _ _ h => h) (by kernel_rfl) (by assumption) ?_ ?_
          rotate_left 1
          · (intro wI hSI; (try dsimp only at hSI); go_simp; (try with_reducible rfl))
          simp only [Act.put, List.setIfInBounds_toArray, List.set_cons_zero, List.set_cons_succ]
          refine rtake (i := 9) (d := (some 49)) (v := ?_) rfl (by kernel_rfl) (by kernel_rfl) (by kernel_rfl) (by kernel_rfl) (fun _ _ _ h => h) (by kernel_rfl) (by assumption) ?_ ?_
          rotate_left 1
          · (intro wI hSI; (try dsimp only at hSI); go_simp; (try with_reducible rfl))
          simp only [Act.put, List.setIfInBounds_toArray, List.set_cons_zero, List.set_cons_succ]
          refine rtake (i := 10) (d := (some 50)) (v := ?_) rfl (by kernel_rfl) (by kernel_rfl) (by kernel_rfl) (by kernel_rfl) (fun _ _ _ h => h) (by kernel_rfl) (by assumption) ?_ ?_
          rotate_left 1
          · (intro wI hSI; (try dsimp only at hSI); go_simp; (try with_reducible rfl))
          simp only [Act.put, List.setIfInBounds_toArray, List.set_cons_zero, List.set_cons_succ]
          refine rtake (i := 11) (d := (some 51)) (v := ?_) rfl (by kernel_rfl) (by kernel_rfl) (by kernel_rfl) (by kernel_rfl) (fun _ _ _ h => h) (by kernel_rfl) (by assumption) ?_ ?_
          rotate_left 1
          · (intro wI hSI; (try dsimp only at hSI); go_simp; (try with_reducible rfl))
          simp only [Act.put, List.setIfInBounds_toArray, List.set_cons_zero, List.set_cons_succ]
          refine rtake (i := 12) (d := (some 52)) (v := ?_) rfl (by kernel_rfl) (by kernel_rfl) (by kernel_rfl) (by kernel_rfl) (fun _ _ _ h => h) (by kernel_rfl) (by assumption) ?_ ?_
          rotate_left 1
          · (intro wI hSI; (try dsimp only at hSI); go_simp; (try with_reducible rfl))
          simp only [Act.put, List.setIfInBounds_toArray, List.set_cons_zero, List.set_cons_succ]
          refine rtake (i := 13) (d := (some 53)) (v := ?_) rfl (by kernel_rfl) (by kernel_rfl) (by kernel_rfl) (by kernel_rfl) (fun _ _ _ h => h) (by kernel_rfl) (by assumption) ?_ ?_
          rotate_left 1
          · (intro wI hSI; (try dsimp only at hSI); go_simp; (try with_reducible rfl))
          simp only [Act.put, List.setIfInBounds_toArray, List.set_cons_zero, List.set_cons_succ]
          refine rtake (i := 14) (d := (some 54)) (v := ?_) rfl (by kernel_rfl) (by kernel_rfl) (by kernel_rfl) (by kernel_rfl) (fun _ _ _ h => h) (by kernel_rfl) (by assumption) ?_ ?_
          rotate_left 1
          · (intro wI hSI; (try dsimp only at hSI); go_simp; (try with_reducible rfl))
          simp only [Act.put, List.setIfInBounds_toArray, List.set_cons_zero, List.set_cons_succ]
          refine rtake (i := 15) (d := (some 55)) (v := ?_) rfl (by kernel_rfl) (by kernel_rfl) (by kernel_rfl) (by kernel_rfl) (fun _ _ _ h => h) (by kernel_rfl) (by assumption) ?_ ?_
          rotate_left 1
          · (intro wI hSI; (try dsimp only at hSI); go_simp; (try with_reducible rfl))
          simp only [Act.put, List.setIfInBounds_toArray, List.set_cons_zero, List.set_cons_succ]
          refine rtake (i := 16) (d := (some 56)) (v := ?_) rfl (by kernel_rfl) (by kernel_rfl) (by kernel_rfl) (by kernel_rfl) (fun _ _ _ h => h) (by kernel_rfl) (by assumption) ?_ ?_
          rotate_left 1
          · (intro wI hSI; (try dsimp only at hSI); go_simp; (try with_reducible rfl))
          simp only [Act.put, List.setIfInBounds_toArray, List.set_cons_zero, List.set_cons_succ]
          refine rtake (i := 17) (d := (some 57)) (v := ?_) rfl (by kernel_rfl) (by kernel_rfl) (by kernel_rfl) (by kernel_rfl) (fun _ _ _ h => h) (by kernel_rfl) (by assumption) ?_ ?_
          rotate_left 1
          · (intro wI hSI; (try dsimp only at hSI); go_simp; (try with_reducible rfl))
          simp only [Act.put, List.setIfInBounds_toArray, List.set_cons_zero, List.set_cons_succ]
          refine rcall (i := 18) (d := (some 58)) (by kernel_rfl) rfl (by kernel_rfl) (fun K hK => ?_)
          go_simp
          refine hK.out _ _ ?hS (fun hHeld => ?_)
          case hS => exact HS.out _ hkA
          clear hK K
          simp only [Act.put, List.setIfInBounds_toArray, List.set_cons_zero, List.set_cons_succ]
          refine rcall (i := 19) (d := (some 59)) (by kernel_rfl) rfl (by kernel_rfl) (fun K hK => ?_)
          refine step_append_lie (by rfl) _ _ 64 (by rfl) 40 16 (.agg #[.int .i64 0, .int .i64 0]) Tryz.underlying64 Tryz.infoSpn (by rfl) u5 A1 (by rfl) hoA ((f1 : Int), (f2 : Int)) _ (by rfl) (Box.new _ _ _) (by omega) (by omega) (by simp; omega) ?_; intro g9 cap9 w5 hown5 hg5 hat5; have hk5 := hkA.grown hg5 (fun j hj => .inl hj); have hb5 := hbA.grown hg5 (by simp; omega) (fun j hj => (HlO.out _ hj).1)
          refine hK.out _ _ ?hS (fun hHeld => ?_)
          case hS => exact HS.out _ hk5
          clear hK K
          simp only [Act.put, List.setIfInBounds_toArray, List.set_cons_zero, List.set_cons_succ]
          refine rtake (i := 20) (d := (some 5)) (v := ?_) rfl (by kernel_rfl) (by kernel_rfl) (by kernel_rfl) (by kernel_rfl) (fun _ _ _ h => h) (by kernel_rfl) (by assumption) ?_ ?_
          rotate_left 1
          · (intro wI hSI; (try dsimp only at hSI); go_simp; (try with_reducible rfl))
          simp only [Act.put, List.setIfInBounds_toArray, List.set_cons_zero, List.set_cons_succ]
          refine wpAnyH_done (by kernel_rfl) ?_ _
          rw [← Hy2.out] at hown5
          rw [← Hte.out]
          clear hHeld
          go_wp2_with fail
          go_roundg (ws.length + 1 - l.length - (k + 1))
          case measure => have := hgk.out; omega
          case rel => exact ⟨k + 1, by go_num, by omega, rfl, by first | exact hown5 | (rw [HA2.out]; exact hown5), hb5⟩
  · have hke : ws.length + 1 - l.length = k := by omega
    rw [hke] at Hfin
    have hdl : decide ((k : Int) + (l.length : Int) ≤ (ws.length : Int)) = false := by
      refine decide_eq_false ?_
      omega
    rw [← Hfin.out] at hown
    go_wp2_with fail
    go_ret
    exact ⟨_, rfl, hown, hb⟩
end Go.Proofs.YthajoedabjfaaaaGreatDoor

/-! Where words say that something was done by the authors: of the program. -/
namespace Go.Proofs.YthajoedabjfaaaaGreatDoor
open Go.RowKit
set_option linter.unusedVariables false
set_option linter.unusedSimpArgs false

theorem isOur_eq (w : ByteArray) : isOur w = (decide (w = ⟨#[111, 117, 114]⟩) || (decide (w = ⟨#[109, 121]⟩) || decide (w = ⟨#[119, 101]⟩))) := by
  unfold isOur
  rw [Bool.eq_iff_iff]
  simp only [Bool.or_eq_true, decide_eq_true_eq]
theorem isLate_eq (w : ByteArray) : isLate w = (decide (w = ⟨#[112, 114, 101, 118, 105, 111, 117, 115]⟩) || (decide (w = ⟨#[101, 97, 114, 108, 105, 101, 114]⟩) || (decide (w = ⟨#[112, 114, 105, 111, 114]⟩) || decide (w = ⟨#[114, 101, 99, 101, 110, 116]⟩)))) := by
  unfold isLate
  rw [Bool.eq_iff_iff]
  simp only [Bool.or_eq_true, decide_eq_true_eq]
theorem toList_is (a : ByteArray) (l : List UInt8) : (a.toList == l) = decide (a = ⟨l.toArray⟩) := by
  rw [← toList_beq]
  congr 1
  rw [ByteArray.toList_eq]
set_option maxRecDepth 100000 in
set_option maxHeartbeats 16000000 in
theorem ours_any (s : ByteArray) (ta : Option Addr) (tc : Nat) (w : World) (hE : Env w) (hs : s.size ≤ 100000) (ht : SA w ta (wordsT s)) (hc : (wordsT s).length ≤ tc) :
    Calls Tryz.prog 38 #[.string s, .slice ta (wordsT s).length tc] w (GivesOwn 40 (oursS s) w) := by
  have hn : (wordsS s).length ≤ 100001 := by have := spots_len s; rw [wordsS_length]; omega
  have HTc := Lib.hid (fun w' (h : SA w' ta (wordsT s)) i (hi : i < (wordsS s).length) => h.wrdT hi)
  have Hos := Lib.hid (oursTo_succ s)
  have Hol := Lib.hid (oursTo_len s)
  have Hno := Lib.hid (fun i (h : isOur (wdA s i) = false) => not_our h (reach s i))
  have Hry0 := Lib.hid (fun i m (h : hitA s i (i + 1 + m) = true) => rowTo_yes h)
  have Hrn0 := Lib.hid (fun i m (h : hitA s i (i + 1 + m) = false) => rowTo_no h)
  have Hrr0 := Lib.hid (fun i m n (hm : m ≤ n) (h : ∀ q, m ≤ q → q < n → hitA s i (i + 1 + q) = false) => rowTo_rest hm h)
  have Hrl0 := Lib.hid (fun i => rowTo_len s i)
  have Hr00 : Hid (∀ i, rowTo s i 0 = []) := fun i => rfl
  have Ho0 : Hid (oursTo s 0 = []) := rfl
  have HitE0 : Hid (∀ i k, hitA s i k = (isOur (wdA s i) && (isLate (wdA s k) && !nlIn s (toA s i) (frA s k)))) := fun i k => rfl
  have Hmono : Hid (∀ i j k, nlIn s (toA s i) (frA s j) = true → frA s j ≤ frA s k → nlIn s (toA s i) (frA s k) = true) := fun i j k h h2 => nlIn_mono h h2
  have Hwd : Hid (∀ i (hi : i < (wordsS s).length), (wordsS s)[i] = wdA s i) := fun i hi => by unfold wdA; rw [List.getD_eq_getElem?_getD, List.getElem?_eq_getElem hi]; rfl
  have Hbd : Hid (∀ i, i < (wordsS s).length → frA s i < toA s i ∧ toA s i ≤ s.size) := fun i hi => by rw [wordsS_length] at hi; exact spot_bd hi
  have Hri : Hid (∀ i k, i < k → k < (wordsS s).length → toA s i < frA s k) := fun i k h hk => by rw [wordsS_length] at hk; exact spots_rise h hk
  have Hre : Hid (∀ i, reach s i = min (wordsS s).length (i + 7) - (i + 1)) := fun i => rfl
  have HCo : Hid (∀ a b W, Env W → Calls Tryz.prog 48 #[.string (s.extract a b), .string ⟨#[10]⟩] W (fun e w' => e = .returned (.bool (nlIn s a b)) ∧ W = w')) := fun a b W h => containsS_any (s.extract a b) ⟨#[10]⟩ W h (by rw [ByteArray.size_extract]; omega)
  have Hfin : Hid (oursS s = oursTo s (wordsS s).length) := rfl
  have hlT : (wordsT s).length = (wordsS s).length := wordsT_length s
  rw [hlT] at hc ⊢
  generalize oursS s = res at *
  generalize wordsT s = wt at *
  generalize wdA s = wd at *
  generalize wordsS s = ws at *
  generalize oursTo s = oT at *
  generalize rowTo s = rT at *
  generalize hitA s = hT at *
  generalize nlIn s = nl at *
  generalize frA s = fr at *
  generalize toA s = tt at *
  generalize reach s = rc at *
  clear hlT
  go_enter Tryz.func38, Tryz.ntmps38
  go_wp2_with fail
  go_loopg [5, 12] ws.length (fun gk v i wr => ∃ k : Nat, i = .int .i64 k ∧ k ≤ ws.length ∧ Hid (gk = ws.length - k) ∧ Own w.heap.size 40 wr v (oT k) ∧ Below w.heap.size w wr)
  case atStart => exact ⟨0, rfl, by omega, rfl, by rw [Ho0.out]; exact Own.nil _ _ _, Below.refl _ _⟩
  obtain ⟨i, rfl, hi, hgi, hown, hb⟩ := hrel
  have hzr := hb.size
  by_cases hlt : i < ws.length
  · obtain ⟨tb, tf, hte, c0, c1, c2⟩ := HTc.out wr (ht.below hb) i hlt
    rw [Hwd.out i hlt] at c0
    have Hos2 := Lib.hid (Hos.out i)
    have Hno2 := Lib.hid (Hno.out i)
    have Hte := Lib.hid hte
    have hsaT := ht
    rw [hte]
    have hi1 : (0 : Int) ≤ (i : Int) := by omega
    have hi2 : (i : Int) < (ws.length : Int) := by omega
    have hbi := Hbd.out i hlt
    have hown1 := hown.alloc (.cells #[.string (wd i), .int .i64 (fr i), .int .i64 (tt i)] 104)
    have hB7 := Box.new wr 104 #[.string (wd i), .int .i64 (fr i), .int .i64 (tt i)]
    have hb7 : Below w.heap.size w (wr.alloc (.cells #[.string (wd i), .int .i64 (fr i), .int .i64 (tt i)] 104)) := by (repeat' (first | exact Below.refl _ _ | assumption | refine Below.setCell ?_ ?_ _ | refine below_drewN ?_ _ | refine Below.drew ?_ | refine Below.alloc ?_ ?_ _ | (with_reducible refine Below.trans ?_ (Below.mono hb ?_)) | (with_reducible refine Below.trans ?_ (Below.mono hb0 ?_)) | (with_reducible refine Below.trans ?_ (Below.mono hb1 ?_)) | (with_reducible refine Below.trans ?_ (Below.mono hb2 ?_)) | (with_reducible refine Below.trans ?_ (Below.mono hb3 ?_)) | (with_reducible refine Below.trans ?_ (Below.mono hb4 ?_)) | (with_reducible refine Below.trans ?_ (Below.mono hb5 ?_)) | (with_reducible refine Below.trans ?_ (Below.mono hb6 ?_)) | (with_reducible refine Below.trans ?_ (Below.mono hb7 ?_)) | (with_reducible refine Below.trans ?_ (Below.mono hb8 ?_)) | (with_reducible refine Below.trans ?_ (Below.mono hb9 ?_)) | (with_reducible refine Below.trans ?_ (Below.mono hb10 ?_)) | (with_reducible refine Below.trans ?_ (Below.mono hb11 ?_)) | (with_reducible refine Below.trans ?_ (Below.mono hb12 ?_)) | (with_reducible refine Below.trans ?_ (Below.mono hb13 ?_)) | (with_reducible refine Below.trans ?_ (Below.mono hb14 ?_)) | (with_reducible refine Below.trans ?_ (Below.mono hb15 ?_)) | omega | (simp; done) | (simp; omega)))
    have hb1 : ((wd i).toList == [111, 117, 114]) = decide (wd i = ⟨#[111, 117, 114]⟩) := toList_is _ _
    have hb2 : ((wd i).toList == [109, 121]) = decide (wd i = ⟨#[109, 121]⟩) := toList_is _ _
    have hb3 : ((wd i).toList == [119, 101]) = decide (wd i = ⟨#[119, 101]⟩) := toList_is _ _
    have Hisu : Hid (isOur (wd i) = (decide (wd i = ⟨#[111, 117, 114]⟩) || (decide (wd i = ⟨#[109, 121]⟩) || decide (wd i = ⟨#[119, 101]⟩)))) := isOur_eq _
    generalize decide (wd i = ⟨#[111, 117, 114]⟩) = u1 at *
    generalize decide (wd i = ⟨#[109, 121]⟩) = u2 at *
    generalize decide (wd i = ⟨#[119, 101]⟩) = u3 at *
    have Huo := Lib.hid (show isOur (wd i) = (u1 || (u2 || u3)) from Hisu.out)
    clear Hisu
    go_upto_region 5 with (fail)
    generalize hW7 : wr.alloc (.cells #[.string (wd i), .int .i64 (fr i), .int .i64 (tt i)] 104) = W7 at *
    have hne0 : ∀ j, u5.ownBlock = some j → j ≠ wr.heap.size := fun j hj => by have := (hown.lt j hj).2; omega
    generalize wr.heap.size = h7 at *
    have d0 : _ = some (Value.string (wd i)) := hB7.cell 0
    go_cut [29] from 17 to 30 (fun v wx => v = .bool (!(u1 || (u2 || u3))) ∧ wx = W7)
    case first =>
      have Hb1 := Lib.hid hb1
      have Hb2 := Lib.hid hb2
      have Hb3 := Lib.hid hb3
      clear hb1 hb2 hb3
      go_wp2_with fail
      all_goals
        go_meet
        refine ⟨congrArg Value.bool ?_, rfl⟩
        rw [← Hb1.out, ← Hb2.out, ← Hb3.out]
        simp [*, Bool.and_assoc]
    case rest =>
      obtain ⟨rfl, rfl⟩ := hcut
      generalize (u1 || (u2 || u3)) = uo at *
      clear hb1 hb2 hb3
      cases uo
      · have Hn2 := Lib.hid (Hno2.out Huo.out)
        have Hos3 : Hid (oT (i + 1) = oT i) := by show _ = _; rw [Hos2.out, Hn2.out, List.append_nil]
        go_wp2_with fail
        rw [← Hte.out]
        go_roundg (ws.length - (i + 1))
        case measure => have := hgi.out; omega
        case rel => exact ⟨i + 1, by go_num, by omega, rfl, by rw [Hos3.out]; exact hown1, hb7⟩
      · simp only [Bool.not_true]
        obtain ⟨i1, hi1e⟩ : ∃ n, i + 1 = n := ⟨_, rfl⟩
        obtain ⟨i7, hi7e⟩ : ∃ n, i + 7 = n := ⟨_, rfl⟩
        have hw1 : IntKind.i64.wrap ((i : Int) + 1) = (i1 : Int) := by rw [IntWalk.i64_in _ (by omega)]; omega
        have hw7 : IntKind.i64.wrap ((i1 : Int) + 6) = (i7 : Int) := by rw [IntWalk.i64_in _ (by omega)]; omega
        obtain ⟨m, hm⟩ : ∃ m, min ws.length i7 = m := ⟨_, rfl⟩
        have hmi : min (ws.length : Int) (i7 : Int) = (m : Int) := by omega
        obtain ⟨R, hR⟩ : ∃ R, rc i = R := ⟨_, rfl⟩
        have hRm : i1 + R = m := by have := Hre.out i; rw [hR, hi7e, hm, hi1e] at this; omega
        have hm1 : m ≤ ws.length := by omega
        have hi3 : (i1 : Int) ≤ (m : Int) := by omega
        have hi4 : (0 : Int) ≤ (i1 : Int) := by omega
        have hi5 : (m : Int) ≤ (tc : Int) := by omega
        have hRd : (m : Int) - (i1 : Int) = (R : Int) := by omega
        rw [hR] at Hos2
        have Hry := Lib.hid (fun q h => Hry0.out i q h)
        have Hrn := Lib.hid (fun q h => Hrn0.out i q h)
        have Hrr := Lib.hid (fun q h1 h2 => Hrr0.out i q R h1 h2)
        have Hrl := Lib.hid (Hrl0.out i)
        have hol := Hol.out i
        rw [hi1e] at Hry Hrn Hrr
        have Hi1 := Lib.hid hi1e
        have Hi7 := Lib.hid hi7e
        have Hm := Lib.hid hm
        clear hi1e hi7e hm
        by_cases hti : tc = i1
        · have hR0 : R = 0 := by omega
          subst hR0
          have hmi1 : m = i1 := by omega
          subst hmi1
          have Hos3 : Hid (oT (i + 1) = oT i) := by show _ = _; rw [Hos2.out, Hr00.out i, List.append_nil]
          go_wp2_with fail
          refine wp_loop_rounds 1 ?_
          rw [rounds_succ]
          go_wp2_with fail
          rw [← Hte.out]
          go_roundg (ws.length - (i + 1))
          case measure => have := hgi.out; omega
          case rel => exact ⟨i + 1, by first | (go_num; done) | rw [Hi1.out], by omega, rfl, by rw [Hos3.out]; exact hown1, hb7⟩
        · go_wp2_with fail
          go_loopg [5, 41] R (fun gm v j wr => ∃ q : Nat, j = .int .i64 q ∧ q ≤ R ∧ Hid (gm = R - q) ∧ Own w.heap.size 40 wr v (oT i ++ rT i q) ∧ Box wr h7 104 #[.string (wd i), .int .i64 (fr i), .int .i64 (tt i)] ∧ (∀ j, v.ownBlock = some j → j ≠ h7) ∧ Below w.heap.size w wr)
          case atStart => exact ⟨0, rfl, by omega, rfl, by rw [Hr00.out i, List.append_nil]; exact hown1, hB7, hne0, hb7⟩
          clear hown1 hB7 hne0 hb7 d0 c0 c1 c2 hown hb
          obtain ⟨q, rfl, hq, hgm, hown2, hB72, hne7, hb2⟩ := hrel
          by_cases hlq : q < R
          · obtain ⟨k, hk⟩ : ∃ k, i1 + q = k := ⟨_, rfl⟩
            have hkn : k < ws.length := by omega
            obtain ⟨tb2, tf2, hte2, e0, e1, e2⟩ := HTc.out wr (ht.below hb2) k hkn
            rw [Hte.out] at hte2
            cases hte2
            rw [Hwd.out k hkn] at e0
            rw [show tf + k * 3 = tf + i1 * 3 + q * 3 by omega] at e0 e1 e2
            have hri := Hri.out i k (by have := Hi1.out; omega) hkn
            have hbk := Hbd.out k hkn
            have hEr := hE.below hb2
            have HC := Lib.hid (fun W (h : Env W) => HCo.out (tt i) (fr k) W h)
            have Hk := Lib.hid hk
            have HitE : Hid (hT i (i1 + q) = (isOur (wd i) && (isLate (wd k) && !nl (tt i) (fr k)))) := by show _ = _; rw [hk]; exact HitE0.out i k
            have hB73 := hB72.alloc (.cells #[.string (wd k), .int .i64 (fr k), .int .i64 (tt k)] 104)
            have hBx := Box.new wr 104 #[.string (wd k), .int .i64 (fr k), .int .i64 (tt k)]
            have hown3 := hown2.alloc (.cells #[.string (wd k), .int .i64 (fr k), .int .i64 (tt k)] 104)
            have hb3 := hb2.alloc hb2.size (.cells #[.string (wd k), .int .i64 (fr k), .int .i64 (tt k)] 104)
            have hE3 := hEr.alloc (.cells #[.string (wd k), .int .i64 (fr k), .int .i64 (tt k)] 104)
            clear hk
            have hq1 : (0 : Int) ≤ (q : Int) := by omega
            have hq2 : (q : Int) < (R : Int) := by omega
            have hs1 : (tt i : Int) ≤ (fr k : Int) := by omega
            have hs2 : (fr k : Int) ≤ (s.size : Int) := by omega
            have hB73_l := hB73.lt; have hB73_0 := hB73.cell 0; have hB73_1 := hB73.cell 1; have hB73_2 := hB73.cell 2; simp at hB73_0 hB73_1 hB73_2
            cases hnl : nl (tt i) (fr k)
            · rw [hnl] at HC
              rw [Huo.out, Bool.true_and] at HitE
              have hc1 : ((wd k).toList == [112, 114, 101, 118, 105, 111, 117, 115]) = decide (wd k = ⟨#[112, 114, 101, 118, 105, 111, 117, 115]⟩) := toList_is _ _
              have hc2 : ((wd k).toList == [101, 97, 114, 108, 105, 101, 114]) = decide (wd k = ⟨#[101, 97, 114, 108, 105, 101, 114]⟩) := toList_is _ _
              have hc3 : ((wd k).toList == [112, 114, 105, 111, 114]) = decide (wd k = ⟨#[112, 114, 105, 111, 114]⟩) := toList_is _ _
              have hc4 : ((wd k).toList == [114, 101, 99, 101, 110, 116]) = decide (wd k = ⟨#[114, 101, 99, 101, 110, 116]⟩) := toList_is _ _
              have HLt : Hid (isLate (wd k) = (decide (wd k = ⟨#[112, 114, 101, 118, 105, 111, 117, 115]⟩) || (decide (wd k = ⟨#[101, 97, 114, 108, 105, 101, 114]⟩) || (decide (wd k = ⟨#[112, 114, 105, 111, 114]⟩) || decide (wd k = ⟨#[114, 101, 99, 101, 110, 116]⟩))))) := isLate_eq _
              generalize decide (wd k = ⟨#[112, 114, 101, 118, 105, 111, 117, 115]⟩) = y1 at *
              generalize decide (wd k = ⟨#[101, 97, 114, 108, 105, 101, 114]⟩) = y2 at *
              generalize decide (wd k = ⟨#[112, 114, 105, 111, 114]⟩) = y3 at *
              generalize decide (wd k = ⟨#[114, 101, 99, 101, 110, 116]⟩) = y4 at *
              rw [HLt.out] at HitE
              clear HLt
              go_wp2_with fail
              refine (HC.out _ hE3).mono ?_
              rintro e w4 ⟨rfl, hw4⟩
              subst hw4
              have hz8 := hb3.size
              have h79 : h7 < wr.heap.size := hB72.lt
              clear hB72 hown2 hb2 hE3 hEr HC e0 e1 e2 hs1 hs2 hri hbk
              generalize wr.alloc (.cells #[.string (wd k), .int .i64 (fr k), .int .i64 (tt k)] 104) = W8 at *
              generalize wr.heap.size = h9 at *
              have hBx_l := hBx.lt; have hBx_0 := hBx.cell 0; have hBx_1 := hBx.cell 1; have hBx_2 := hBx.cell 2; simp at hBx_0 hBx_1 hBx_2
              cases y1
              · cases y2
                · cases y3
                  · cases y4
                    · have Hn2 := Lib.hid (Hrn.out q (by rw [HitE.out]; rfl))
                      go_wp2_with fail
                      go_roundg (R - (q + 1))
                      case measure => have := hgm.out; omega
                      case rel => exact ⟨q + 1, by go_num, by omega, rfl, by rw [Hn2.out]; exact hown3, hB73, hne7, hb3⟩
                    · have Hn2 := Lib.hid (Hry.out q (by rw [HitE.out, hnl]; rfl))
                      have hoA := hown3.alloc (.cells #[.int .i64 (fr i), .int .i64 (tt k)] 40)
                      have hbA := hb3.alloc hb3.size (.cells #[.int .i64 (fr i), .int .i64 (tt k)] 40)
                      have hB7A := hB73.alloc (.cells #[.int .i64 (fr i), .int .i64 (tt k)] 40)
                      have HlO := Lib.hid hown3.lt
                      have hlen : (oT i ++ rT i q).length ≤ 700007 := by rw [List.length_append]; have := Hrl.out q; omega
                      obtain ⟨A2, hA2⟩ : ∃ A2, oT i ++ rT i (q + 1) = A2 := ⟨_, rfl⟩
                      have HA2 := Lib.hid hA2
                      have HA3 := Lib.hid (show (oT i ++ rT i q) ++ [((fr i : Int), (tt k : Int))] = A2 by rw [← hA2, Hn2.out, List.append_assoc, Hk.out])
                      clear hA2
                      generalize oT i ++ rT i q = A1 at *
                      go_wp2_with (at_builtin; refine wpList_append_lie (α := Spn) rfl _ _ 64 rfl 40 16 (.agg #[.int .i64 0, .int .i64 0]) Tryz.underlying64 Tryz.infoSpn rfl _ A1 rfl hoA ((fr i : Int), (tt k : Int)) _ rfl (Box.new _ _ _) (by omega) (by omega) (by simp; omega) ?_; intro g9 cap9 w9 hown9 hg9 hat9)
                      have hb9 := hbA.grown hg9 (by have := hb3.size; simp; omega) (fun j hj => (HlO.out j hj).1)
                      have hB79 := hB7A.kp ((Kp.refl (fun b => u5.ownBlock = some b) _).grown hg9 (fun j hj => .inl hj)) (fun e => hne7 h7 e rfl)
                      have hne9 : ∀ j, (Value.slice (some ⟨g9, 0, none⟩) (A1.length + 1) cap9).ownBlock = some j → j ≠ h7 := fun j hj => by
                        obtain rfl : g9 = j := by simpa [Value.ownBlock] using hj
                        rcases hat9 with h | h
                        · exact hne7 _ h
                        · have := hB7A.lt; simp at h this; omega
                      rw [HA3.out] at hown9
                      (try go_wp2_with fail)
                      go_roundg (R - (q + 1))
                      case measure => have := hgm.out; omega
                      case rel => exact ⟨q + 1, by go_num, by omega, rfl, by rw [HA2.out]; exact hown9, hB79, hne9, hb9⟩
                  · have Hn2 := Lib.hid (Hry.out q (by rw [HitE.out, hnl]; rfl))
                    have hoA := hown3.alloc (.cells #[.int .i64 (fr i), .int .i64 (tt k)] 40)
                    have hbA := hb3.alloc hb3.size (.cells #[.int .i64 (fr i), .int .i64 (tt k)] 40)
                    have hB7A := hB73.alloc (.cells #[.int .i64 (fr i), .int .i64 (tt k)] 40)
                    have HlO := Lib.hid hown3.lt
                    have hlen : (oT i ++ rT i q).length ≤ 700007 := by rw [List.length_append]; have := Hrl.out q; omega
                    obtain ⟨A2, hA2⟩ : ∃ A2, oT i ++ rT i (q + 1) = A2 := ⟨_, rfl⟩
                    have HA2 := Lib.hid hA2
                    have HA3 := Lib.hid (show (oT i ++ rT i q) ++ [((fr i : Int), (tt k : Int))] = A2 by rw [← hA2, Hn2.out, List.append_assoc, Hk.out])
                    clear hA2
                    generalize oT i ++ rT i q = A1 at *
                    go_wp2_with (at_builtin; refine wpList_append_lie (α := Spn) rfl _ _ 64 rfl 40 16 (.agg #[.int .i64 0, .int .i64 0]) Tryz.underlying64 Tryz.infoSpn rfl _ A1 rfl hoA ((fr i : Int), (tt k : Int)) _ rfl (Box.new _ _ _) (by omega) (by omega) (by simp; omega) ?_; intro g9 cap9 w9 hown9 hg9 hat9)
                    have hb9 := hbA.grown hg9 (by have := hb3.size; simp; omega) (fun j hj => (HlO.out j hj).1)
                    have hB79 := hB7A.kp ((Kp.refl (fun b => u5.ownBlock = some b) _).grown hg9 (fun j hj => .inl hj)) (fun e => hne7 h7 e rfl)
                    have hne9 : ∀ j, (Value.slice (some ⟨g9, 0, none⟩) (A1.length + 1) cap9).ownBlock = some j → j ≠ h7 := fun j hj => by
                      obtain rfl : g9 = j := by simpa [Value.ownBlock] using hj
                      rcases hat9 with h | h
                      · exact hne7 _ h
                      · have := hB7A.lt; simp at h this; omega
                    rw [HA3.out] at hown9
                    (try go_wp2_with fail)
                    go_roundg (R - (q + 1))
                    case measure => have := hgm.out; omega
                    case rel => exact ⟨q + 1, by go_num, by omega, rfl, by rw [HA2.out]; exact hown9, hB79, hne9, hb9⟩
                · have Hn2 := Lib.hid (Hry.out q (by rw [HitE.out, hnl]; rfl))
                  have hoA := hown3.alloc (.cells #[.int .i64 (fr i), .int .i64 (tt k)] 40)
                  have hbA := hb3.alloc hb3.size (.cells #[.int .i64 (fr i), .int .i64 (tt k)] 40)
                  have hB7A := hB73.alloc (.cells #[.int .i64 (fr i), .int .i64 (tt k)] 40)
                  have HlO := Lib.hid hown3.lt
                  have hlen : (oT i ++ rT i q).length ≤ 700007 := by rw [List.length_append]; have := Hrl.out q; omega
                  obtain ⟨A2, hA2⟩ : ∃ A2, oT i ++ rT i (q + 1) = A2 := ⟨_, rfl⟩
                  have HA2 := Lib.hid hA2
                  have HA3 := Lib.hid (show (oT i ++ rT i q) ++ [((fr i : Int), (tt k : Int))] = A2 by rw [← hA2, Hn2.out, List.append_assoc, Hk.out])
                  clear hA2
                  generalize oT i ++ rT i q = A1 at *
                  go_wp2_with (at_builtin; refine wpList_append_lie (α := Spn) rfl _ _ 64 rfl 40 16 (.agg #[.int .i64 0, .int .i64 0]) Tryz.underlying64 Tryz.infoSpn rfl _ A1 rfl hoA ((fr i : Int), (tt k : Int)) _ rfl (Box.new _ _ _) (by omega) (by omega) (by simp; omega) ?_; intro g9 cap9 w9 hown9 hg9 hat9)
                  have hb9 := hbA.grown hg9 (by have := hb3.size; simp; omega) (fun j hj => (HlO.out j hj).1)
                  have hB79 := hB7A.kp ((Kp.refl (fun b => u5.ownBlock = some b) _).grown hg9 (fun j hj => .inl hj)) (fun e => hne7 h7 e rfl)
                  have hne9 : ∀ j, (Value.slice (some ⟨g9, 0, none⟩) (A1.length + 1) cap9).ownBlock = some j → j ≠ h7 := fun j hj => by
                    obtain rfl : g9 = j := by simpa [Value.ownBlock] using hj
                    rcases hat9 with h | h
                    · exact hne7 _ h
                    · have := hB7A.lt; simp at h this; omega
                  rw [HA3.out] at hown9
                  (try go_wp2_with fail)
                  go_roundg (R - (q + 1))
                  case measure => have := hgm.out; omega
                  case rel => exact ⟨q + 1, by go_num, by omega, rfl, by rw [HA2.out]; exact hown9, hB79, hne9, hb9⟩
              · have Hn2 := Lib.hid (Hry.out q (by rw [HitE.out, hnl]; rfl))
                have hoA := hown3.alloc (.cells #[.int .i64 (fr i), .int .i64 (tt k)] 40)
                have hbA := hb3.alloc hb3.size (.cells #[.int .i64 (fr i), .int .i64 (tt k)] 40)
                have hB7A := hB73.alloc (.cells #[.int .i64 (fr i), .int .i64 (tt k)] 40)
                have HlO := Lib.hid hown3.lt
                have hlen : (oT i ++ rT i q).length ≤ 700007 := by rw [List.length_append]; have := Hrl.out q; omega
                obtain ⟨A2, hA2⟩ : ∃ A2, oT i ++ rT i (q + 1) = A2 := ⟨_, rfl⟩
                have HA2 := Lib.hid hA2
                have HA3 := Lib.hid (show (oT i ++ rT i q) ++ [((fr i : Int), (tt k : Int))] = A2 by rw [← hA2, Hn2.out, List.append_assoc, Hk.out])
                clear hA2
                generalize oT i ++ rT i q = A1 at *
                go_wp2_with (at_builtin; refine wpList_append_lie (α := Spn) rfl _ _ 64 rfl 40 16 (.agg #[.int .i64 0, .int .i64 0]) Tryz.underlying64 Tryz.infoSpn rfl _ A1 rfl hoA ((fr i : Int), (tt k : Int)) _ rfl (Box.new _ _ _) (by omega) (by omega) (by simp; omega) ?_; intro g9 cap9 w9 hown9 hg9 hat9)
                have hb9 := hbA.grown hg9 (by have := hb3.size; simp; omega) (fun j hj => (HlO.out j hj).1)
                have hB79 := hB7A.kp ((Kp.refl (fun b => u5.ownBlock = some b) _).grown hg9 (fun j hj => .inl hj)) (fun e => hne7 h7 e rfl)
                have hne9 : ∀ j, (Value.slice (some ⟨g9, 0, none⟩) (A1.length + 1) cap9).ownBlock = some j → j ≠ h7 := fun j hj => by
                  obtain rfl : g9 = j := by simpa [Value.ownBlock] using hj
                  rcases hat9 with h | h
                  · exact hne7 _ h
                  · have := hB7A.lt; simp at h this; omega
                rw [HA3.out] at hown9
                (try go_wp2_with fail)
                go_roundg (R - (q + 1))
                case measure => have := hgm.out; omega
                case rel => exact ⟨q + 1, by go_num, by omega, rfl, by rw [HA2.out]; exact hown9, hB79, hne9, hb9⟩
            · rw [hnl] at HC
              have hnl2 := Lib.hid hnl
              have Hn2 := Lib.hid (Hrr.out q hq (fun q' h1 h2 => by
                have hk0 := Hk.out
                have hk' : i1 + q' < ws.length := by omega
                have hm : fr k ≤ fr (i1 + q') := by
                  by_cases e : k = i1 + q'
                  · rw [e]; exact Nat.le_refl _
                  · have := Hri.out k (i1 + q') (by omega) hk'
                    omega
                have := Hmono.out i k (i1 + q') hnl hm
                rw [HitE0.out, this]
                simp))
              have Hos3 : Hid (oT (i + 1) = oT i ++ rT i q) := by show _ = _; rw [Hos2.out, Hn2.out]
              clear hnl
              go_wp2_with fail
              refine (HC.out _ hE3).mono ?_
              rintro e w4 ⟨rfl, hw4⟩
              subst hw4
              go_wp2_with fail
              rw [← Hte.out]
              go_roundg (ws.length - (i + 1))
              case measure => have := hgi.out; omega
              case rel => exact ⟨i + 1, by first | (go_num; done) | rw [Hi1.out], by omega, rfl, by rw [Hos3.out]; exact hown3, hb3⟩
          · obtain rfl : q = R := by omega
            have Hos3 := Lib.hid Hos2.out
            go_wp2_with fail
            rw [← Hte.out]
            go_roundg (ws.length - (i + 1))
            case measure => have := hgi.out; omega
            case rel => exact ⟨i + 1, by first | (go_num; done) | rw [Hi1.out], by omega, rfl, by rw [Hos3.out]; exact hown2, hb2⟩
  · obtain rfl : i = ws.length := by omega
    rw [← Hfin.out] at hown
    go_wp2_with fail
    go_ret
    exact ⟨_, rfl, hown, hb⟩
end Go.Proofs.YthajoedabjfaaaaGreatDoor
