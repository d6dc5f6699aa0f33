/- slices.Compact of []api.Arrival. -/
import Derived.Test.YtifflpilnpcmoaaGreatDoorCloneA
import Derived.Test.YtifflpilnpcmoaaGreatDoorSortW
import Derived.Test.YtifflpilnpcmoaaGreatDoorKeep
import Derived.Test.YtifflpilnpcmoaaGreatDoorReg
import Derived.Lib.SliceRun
import Derived.Laws.StructEq
namespace Go.Proofs.YtifflpilnpcmoaaGreatDoor
open Go.RowKit Go.Sort
set_option linter.unusedVariables false
set_option linter.unusedSimpArgs false

theorem Own.putArr {w : World} {base g n cap : Nat} {l : List Arv} (h : Own base 63 w (.slice (some ⟨g, 0, none⟩) n cap) l) {i : Nat} (hi : i < l.length) (x : Arv) :
    Own base 63 (((((w.setCell ⟨g, i * 5, none⟩ (.string x.1)).setCell ⟨g, i * 5 + 1, none⟩ (.int .i64 x.2.1)).setCell ⟨g, i * 5 + 2, none⟩ (.int .i64 x.2.2.1)).setCell ⟨g, i * 5 + 3, none⟩ (.string x.2.2.2.1)).setCell ⟨g, i * 5 + 4, none⟩ (.string x.2.2.2.2)) (.slice (some ⟨g, 0, none⟩) n cap) (l.set i x) := by
  obtain ⟨x1, x2, x3, x4, x5⟩ := x
  have h1 := h.put i 0 (x1, l[i].2.1, l[i].2.2.1, l[i].2.2.2.1, l[i].2.2.2.2) (.string x1) hi (by decide) rfl
  have h2 := h1.put i 1 (x1, x2, l[i].2.2.1, l[i].2.2.2.1, l[i].2.2.2.2) (.int .i64 x2) (by rw [List.length_set]; exact hi) (by decide) (by rw [List.getElem_set_self]; rfl)
  rw [List.set_set] at h2
  have h3 := h2.put i 2 (x1, x2, x3, l[i].2.2.2.1, l[i].2.2.2.2) (.int .i64 x3) (by rw [List.length_set]; exact hi) (by decide) (by rw [List.getElem_set_self]; rfl)
  rw [List.set_set] at h3
  have h4 := h3.put i 3 (x1, x2, x3, x4, l[i].2.2.2.2) (.string x4) (by rw [List.length_set]; exact hi) (by decide) (by rw [List.getElem_set_self]; rfl)
  rw [List.set_set] at h4
  have h5 := h4.put i 4 (x1, x2, x3, x4, x5) (.string x5) (by rw [List.length_set]; exact hi) (by decide) (by rw [List.getElem_set_self]; rfl)
  rw [List.set_set] at h5
  exact h5
/-- clear of a slice. -/
theorem run_clearArr (w : World) (b o n c : Nat) (hn : 0 < n) (hc : ∀ j, j < n * 5 → (w.cell? ⟨b, o + j, none⟩).isSome = true) (hf : ∀ j, j < n * 5 → w.frozen? ⟨b, o + j, none⟩ = false) :
    ∃ vs : List Value, vs.length = n * 5 ∧ ∀ ty, (Builtin.clear_ #[30] ty #[.slice (some ⟨b, o, none⟩) n c]).run Tryz.prog w = .ok (.tuple #[]) (w.setCells b o vs) := by
  have hlen : (Builtin.zeroCells #[.string ⟨#[]⟩, .int .i64 0, .int .i64 0, .string ⟨#[]⟩, .string ⟨#[]⟩] n).toList.length = n * 5 := by simp [Builtin.zeroCells]
  have hone : ∀ v ∈ (Builtin.zeroCells #[.string ⟨#[]⟩, .int .i64 0, .int .i64 0, .string ⟨#[]⟩, .string ⟨#[]⟩] n).toList, v.oneCell' = true := by
    intro v hv
    simp only [Builtin.zeroCells, Array.toList_map, List.mem_map] at hv
    obtain ⟨i, _, rfl⟩ := hv
    have h3 : i % 5 < 5 := Nat.mod_lt _ (by omega)
    show (#[Value.string ⟨#[]⟩, .int .i64 0, .int .i64 0, .string ⟨#[]⟩, .string ⟨#[]⟩][i % 5]!).oneCell' = true
    generalize i % 5 = m at *
    obtain rfl | rfl | rfl | rfl | rfl : m = 0 ∨ m = 1 ∨ m = 2 ∨ m = 3 ∨ m = 4 := by omega
    all_goals rfl
  generalize hz : (Builtin.zeroCells #[.string ⟨#[]⟩, .int .i64 0, .int .i64 0, .string ⟨#[]⟩, .string ⟨#[]⟩] n).toList = vs at *
  have hst := run_storeCells_cells (P := Tryz.prog) b o vs 0 w (by rw [hlen]; simpa using hc) (by rw [hlen]; simpa using hf) hone
  simp only [Nat.add_zero] at hst
  obtain ⟨m, rfl⟩ : ∃ m, n = m + 1 := ⟨n - 1, by omega⟩
  refine ⟨vs, hlen, fun ty => ?_⟩
  have hv : (zeroValue 63).run Tryz.prog w = .ok (.agg #[.string ⟨#[]⟩, .int .i64 0, .int .i64 0, .string ⟨#[]⟩, .string ⟨#[]⟩]) w := Tryz.zeroValue63 w
  simp [Builtin.clear_, run_underlying Tryz.underlying30, hv, Value.cells, hz, hst]
theorem run_eqArr (x2 y2 x3 y3 : Int) (x1 y1 x4 y4 x5 y5 : ByteArray) (w : World) : (binOp .eql 63 (.agg #[.string x1, .int .i64 x2, .int .i64 x3, .string x4, .string x5]) (.agg #[.string y1, .int .i64 y2, .int .i64 y3, .string y4, .string y5])).run Tryz.prog w = .ok (.bool (decide ((x1, x2, x3, x4, x5) = (y1, y2, y3, y4, y5)))) w := by
  rw [run_eql_struct]
  go_simp
  have e1 : (x1.toList = y1.toList) ↔ x1 = y1 := toList_inj
  have e4 : (x4.toList = y4.toList) ↔ x4 = y4 := toList_inj
  have e5 : (x5.toList = y5.toList) ↔ x5 = y5 := toList_inj
  by_cases h1 : x1 = y1 <;> by_cases h2 : x2 = y2 <;> by_cases h3 : x3 = y3 <;> by_cases h4 : x4 = y4 <;> by_cases h5 : x5 = y5 <;> simp [h1, h2, h3, h4, h5, e1, e4, e5]
theorem run_neArr (x2 y2 x3 y3 : Int) (x1 y1 x4 y4 x5 y5 : ByteArray) (w : World) : (binOp .neq 63 (.agg #[.string x1, .int .i64 x2, .int .i64 x3, .string x4, .string x5]) (.agg #[.string y1, .int .i64 y2, .int .i64 y3, .string y4, .string y5])).run Tryz.prog w = .ok (.bool (!decide ((x1, x2, x3, x4, x5) = (y1, y2, y3, y4, y5)))) w := by
  rw [run_neq_struct]
  go_simp
  have e1 : (x1.toList = y1.toList) ↔ x1 = y1 := toList_inj
  have e4 : (x4.toList = y4.toList) ↔ x4 = y4 := toList_inj
  have e5 : (x5.toList = y5.toList) ↔ x5 = y5 := toList_inj
  by_cases h1 : x1 = y1 <;> by_cases h2 : x2 = y2 <;> by_cases h3 : x3 = y3 <;> by_cases h4 : x4 = y4 <;> by_cases h5 : x5 = y5 <;> simp [h1, h2, h3, h4, h5, e1, e4, e5]
theorem casesArr (x2 y2 x3 y3 : Int) (x1 y1 x4 y4 x5 y5 : ByteArray) : (x1 = y1 ∧ x2 = y2 ∧ x3 = y3 ∧ x4 = y4 ∧ x5 = y5) ∨ (x1 ≠ y1) ∨ (x1 = y1 ∧ x2 ≠ y2) ∨ (x1 = y1 ∧ x2 = y2 ∧ x3 ≠ y3) ∨ (x1 = y1 ∧ x2 = y2 ∧ x3 = y3 ∧ x4 ≠ y4) ∨ (x1 = y1 ∧ x2 = y2 ∧ x3 = y3 ∧ x4 = y4 ∧ x5 ≠ y5) := by
  by_cases h1 : x1 = y1 <;> by_cases h2 : x2 = y2 <;> by_cases h3 : x3 = y3 <;> by_cases h4 : x4 = y4 <;> by_cases h5 : x5 = y5 <;> simp [h1, h2, h3, h4, h5]
theorem take_set_succG {α : Type} (s : List α) (i : Nat) (x : α) (h : i < s.length) : (s.set i x).take (i + 1) = s.take i ++ [x] := by
  rw [List.take_succ_eq_append_getElem (by rw [List.length_set]; exact h), List.getElem_set_self, List.take_set_of_le (Nat.le_refl i)]
theorem drop_set_ltG {α : Type} (s : List α) (i j : Nat) (x : α) (h : i < j) : (s.set i x).drop j = s.drop j := by
  rw [List.drop_set_of_lt h]
theorem drop_get {α : Type} {s l : List α} {j i : Nat} (h : s.drop j = l.drop j) (hji : j ≤ i) (h1 : i < s.length) (h2 : i < l.length) : s[i] = l[i] := by
  have e := congrArg (fun z => z[i - j]?) h
  simp only [List.getElem?_drop, show j + (i - j) = i by omega] at e
  rw [List.getElem?_eq_getElem h1, List.getElem?_eq_getElem h2] at e
  exact Option.some.inj e
theorem drop_more {α : Type} {s l : List α} {j i : Nat} (h : s.drop j = l.drop j) (hji : j ≤ i) : s.drop i = l.drop i := by
  have e := congrArg (fun z => z.drop (i - j)) h
  simp only [List.drop_drop, show j + (i - j) = i by omega] at e
  exact e
theorem cells_out {w : World} {g : Nat} : ∀ (vs : List Value) (o : Nat) (X : Nat → Prop), X g → Kp X w (w.setCells g o vs)
  | [], _, X, _ => Kp.refl X w
  | v :: r, o, X, hX => ((Kp.refl X w).setCell (p := ⟨g, o, none⟩) (.inl hX) v).trans (cells_out r (o + 1) X hX)
set_option maxRecDepth 100000 in
set_option maxHeartbeats 16000000 in
theorem compactArr_any (base : Nat) (l : List Arv) (v : Value) (w : World) (h : Own base 63 w v l) (hl : l.length ≤ 100000000) :
    Calls Tryz.prog 60 #[v] w (fun e w' => ∃ a cap, e = .returned (.slice a (dedL l).length cap) ∧ SA w' a (dedL l) ∧ Kp (fun j => v.ownBlock = some j) w w' ∧ (∀ x, a = some x → v.ownBlock = some x.block) ∧ Own base 63 w' (.slice a (dedL l).length cap) (dedL l)) := by
  obtain ⟨a, cap, rfl, hsa, hab, hcap⟩ := h.form
  by_cases hs : l.length < 2
  · rw [dedL_short hs]
    have hd : decide ((l.length : Int) < 2) = true := decide_eq_true (by omega)
    go_enter Tryz.func60, Tryz.ntmps60
    go_wp2_with fail
    go_ret
    exact ⟨a, cap, rfl, hsa, Kp.refl _ _, fun x hx => by rw [hx]; rfl, h⟩
  · have hd : decide ((l.length : Int) < 2) = false := decide_eq_false (by omega)
    obtain ⟨g, rfl⟩ : ∃ g, a = some ⟨g, 0, none⟩ := by
      rcases hab with rfl | ⟨g, rfl, -⟩
      · rcases hsa with h1 | ⟨b, off, h1, -⟩
        · rw [h1] at hs; exact absurd (by decide) hs
        · cases h1
      · exact ⟨g, rfl⟩
    have Hk0 := Lib.hid (keepD_zero l)
    have Hks := Lib.hid (fun p (h : p + 1 < l.length) => keepD_succ h)
    have Hdy := Lib.hid (fun k (hk : k < l.length) (h : keepD l k = true) => dedTo_yes hk h)
    have Hdn := Lib.hid (fun k (h : keepD l k = false) => dedTo_no (l := l) h)
    have Hda := Lib.hid (fun k (h : k ≤ l.length) h2 => dedTo_all (l := l) k h h2)
    have HcG : Hid (dedL l = dedTo l l.length) := rfl
    have HSA := Lib.hid (fun W (c : List Arv) (h : Own base 63 W (.slice (some ⟨g, 0, none⟩) l.length cap) c) => (show SA W (some ⟨g, 0, none⟩) c by obtain ⟨a', c', he, hh, _⟩ := h.sa; simp only [Value.slice.injEq] at he; rw [he.1]; exact hh))
    go_enter Tryz.func60, Tryz.ntmps60
    go_wp2_with fail
    go_loopg [3] l.length (fun gk i wr => ∃ p k : Nat, i = .int .i64 k ∧ Hid (k = p + 1) ∧ k ≤ l.length ∧ Hid (gk = l.length - p) ∧ Hid (∀ j, j < k → keepD l j = true) ∧ Own base 63 wr (.slice (some ⟨g, 0, none⟩) l.length cap) l ∧ Kp (fun j => (Value.slice (some ⟨g, 0, none⟩) l.length cap).ownBlock = some j) w wr)
    case atStart => exact ⟨0, 1, rfl, rfl, by omega, rfl, fun j hj => by obtain rfl : j = 0 := by omega
                                                                         exact Hk0.out, h, Kp.refl _ _⟩
    obtain ⟨p, k, rfl, hkp, hk, hgk, hall, hownr, hkpr⟩ := hrel
    have hsar := HSA.out _ _ hownr
    clear hsa h hab
    by_cases hlt : k < l.length
    · obtain ⟨b1, o1, e1, c0, c1, c2, c3, c4⟩ := hsar.arv hlt
      cases e1
      obtain ⟨b2, o2, e2, d0, d1, d2, d3, d4⟩ := hsar.arv (i := p) (by have := hkp.out; omega)
      cases e2
      have hw : IntKind.i64.wrap ((k : Int) - 1) = (p : Int) := by have := hkp.out; rw [IntWalk.i64_in _ (by omega)]; omega
      have hk1 : (0 : Int) ≤ (k : Int) := by omega
      have hk2 : (k : Int) < (l.length : Int) := by omega
      have hp1 : (0 : Int) ≤ (p : Int) := by omega
      have hp2 : (p : Int) < (l.length : Int) := by have := hkp.out; omega
      have Hks2 : Hid (keepD l k = !decide (l[k] = l[p]'(by have := hkp.out; omega))) := by
        show _ = _
        have e := hkp.out
        subst e
        exact Hks.out p hlt
      generalize l[k] = x at *
      generalize l[p] = y at *
      obtain ⟨x1, x2, x3, x4, x5⟩ := x
      obtain ⟨y1, y2, y3, y4, y5⟩ := y
      simp only [Nat.zero_add] at c0 c1 c2 c3 c4 d0 d1 d2 d3 d4
      obtain ⟨dq, hdq⟩ : ∃ dq, decide ((x1, x2, x3, x4, x5) = (y1, y2, y3, y4, y5)) = dq := ⟨_, rfl⟩
      have Hdq := Lib.hid hdq.symm
      rw [hdq] at Hks2
      clear hdq
      go_upto_region 6 with (fail)
      go_cut [25] from 16 to 26 (fun v wx => v = .bool dq ∧ ∃ nq, wx = World.drewN wr nq)
      case first =>
        have hst1 : (x1.toList == y1.toList) = decide (x1 = y1) := toList_beq x1 y1
        have hst4 : (x4.toList == y4.toList) = decide (x4 = y4) := toList_beq x4 y4
        have hst5 : (x5.toList == y5.toList) = decide (x5 = y5) := toList_beq x5 y5
        rcases casesArr x2 y2 x3 y3 x1 y1 x4 y4 x5 y5 with ⟨rfl, rfl, rfl, rfl, rfl⟩ | h | ⟨rfl, h⟩ | ⟨rfl, rfl, h⟩ | ⟨rfl, rfl, rfl, h⟩ | ⟨rfl, rfl, rfl, rfl, h⟩
        all_goals
          go_quiet (fail)
          go_wp2_with fail
          go_meet
          exact ⟨congrArg Value.bool (by rw [Hdq.out]; simp [*]), _, rfl⟩
      case rest =>
        obtain ⟨rfl, nq, rfl⟩ := hcut
        replace hownr := hownr.drewN nq
        replace hkpr := hkpr.drewN nq
        clear c0 c1 c2 c3 c4 d0 d1 d2 d3 d4 Hdq hsar
        generalize World.drewN wr nq = w7 at *
        cases dq
        · have Hkt : Hid (keepD l k = true) := by show _ = _; rw [Hks2.out]; rfl
          go_wp2_with fail
          go_roundg (l.length - k)
          case measure => have := hgk.out; have := hkp.out; omega
          case rel => exact ⟨k, k + 1, by go_num, rfl, by omega, rfl, fun j hj => by
                        by_cases e : j = k
                        · rw [e]; exact Hkt.out
                        · exact hall.out j (by omega), hownr, hkpr⟩
        · have Hkf : Hid (keepD l k = false) := by show _ = _; rw [Hks2.out]; rfl
          have Hst : Hid (l.take k = dedTo l (k + 1)) := by show _ = _; rw [Hdn.out k Hkf.out, Hda.out k (by omega) hall.out]
          have hck : ¬ cap = k := by omega
          have hkl : (k : Int) ≤ (l.length : Int) := by omega
          have hlc : (l.length : Int) ≤ (cap : Int) := by omega
          clear Hks2 hkp hgk hall hw hp1 hp2 Hk0 Hda Hkf
          go_wp2_with fail
          go_loopg [3, 5] (l.length - (k + 1)) (fun gm iv jv wr => ∃ (i k2 : Nat) (cur : List Arv), iv = .int .i64 i ∧ jv = .int .i64 k2 ∧ 1 ≤ k2 ∧ k + k2 ≤ l.length ∧ i + 1 ≤ k + k2 ∧ Hid (gm = l.length - (k + k2)) ∧ cur.length = l.length ∧ Hid (cur.take i = dedTo l (k + k2)) ∧ Hid (cur.drop (k + k2 - 1) = l.drop (k + k2 - 1)) ∧ Own base 63 wr (.slice (some ⟨g, 0, none⟩) l.length cap) cur ∧ Kp (fun j => (Value.slice (some ⟨g, 0, none⟩) l.length cap).ownBlock = some j) w wr)
          case atStart => exact ⟨k, 1, l, rfl, rfl, by omega, by omega, by omega, rfl, rfl, Hst, rfl, hownr, hkpr⟩
          clear hownr hkpr Hst
          obtain ⟨i, k2, cur, rfl, rfl, hk21, hk22, hik, hgm, hcl, hti, hdj, hown, hkp⟩ := hrel
          have hsac := HSA.out _ _ hown
          have hi1 : (0 : Int) ≤ (i : Int) := by omega
          by_cases hl2 : k2 < l.length - k
          · obtain ⟨p2, hp2⟩ : ∃ p2, k2 - 1 = p2 := ⟨_, rfl⟩
            have hwp : IntKind.i64.wrap ((k2 : Int) - 1) = (p2 : Int) := by rw [IntWalk.i64_in _ (by omega)]; omega
            have hkk : k + k2 < l.length := by omega
            have hkq : k + p2 < l.length := by omega
            have hkc : k + k2 < cur.length := by omega
            have hqc : k + p2 < cur.length := by omega
            have hic : i < cur.length := by omega
            obtain ⟨b1, o1, e1, c0, c1, c2, c3, c4⟩ := hsac.arv hkc
            cases e1
            obtain ⟨b2, o2, e2, d0, d1, d2, d3, d4⟩ := hsac.arv hqc
            cases e2
            have ex := drop_get hdj.out (by omega) hkc hkk
            have ey := drop_get hdj.out (by omega) hqc hkq
            rw [show 0 + (k + k2) * 5 = k * 5 + k2 * 5 by omega, ex] at c0 c1 c2 c3 c4
            rw [show 0 + (k + p2) * 5 = k * 5 + p2 * 5 by omega, ey] at d0 d1 d2 d3 d4
            have Hks2 : Hid (keepD l (k + k2) = !decide (l[k + k2] = l[k + p2])) := by
              show _ = _
              have : ∀ n (hn : n < l.length), n = k + p2 + 1 → keepD l n = !decide (l[n] = l[k + p2]) := fun n hn e => by
                subst e
                exact Hks.out (k + p2) hn
              exact this _ hkk (by omega)
            have Hdy2 := Lib.hid (fun h => Hdy.out (k + k2) hkk h)
            have Hdn2 := Lib.hid (fun h => Hdn.out (k + k2) h)
            have Hdj2 : Hid (cur.drop (k + k2) = l.drop (k + k2)) := drop_more hdj.out (by omega)
            have hj1 : (0 : Int) ≤ (k2 : Int) := by omega
            have hj2 : (k2 : Int) < ((l.length - k : Nat) : Int) := by omega
            have hj3 : (0 : Int) ≤ (p2 : Int) := by omega
            have hj4 : (p2 : Int) < ((l.length - k : Nat) : Int) := by omega
            have hi2 : (i : Int) < (l.length : Int) := by omega
            clear ex ey hdj hsac
            have Hx : Hid (∃ x, x = l[k + k2]) := ⟨_, rfl⟩
            generalize l[k + k2] = x at *
            generalize l[k + p2] = y at *
            obtain ⟨x1, x2, x3, x4, x5⟩ := x
            obtain ⟨y1, y2, y3, y4, y5⟩ := y
            simp only at c0 c1 c2 c3 c4 d0 d1 d2 d3 d4
            obtain ⟨dq, hdq⟩ : ∃ dq, decide ((x1, x2, x3, x4, x5) = (y1, y2, y3, y4, y5)) = dq := ⟨_, rfl⟩
            have Hdq := Lib.hid hdq.symm
            rw [hdq] at Hks2
            clear hdq
            have Hc := Lib.hid (And.intro c0 (And.intro c1 (And.intro c2 (And.intro c3 c4))))
            go_upto_region 11 with (fail)
            go_cut [44] from 35 to 45 (fun v wx => v = .bool (!dq) ∧ ∃ nq, wx = World.drewN wr nq)
            case first =>
              have hst1 : (x1.toList == y1.toList) = decide (x1 = y1) := toList_beq x1 y1
              have hst4 : (x4.toList == y4.toList) = decide (x4 = y4) := toList_beq x4 y4
              have hst5 : (x5.toList == y5.toList) = decide (x5 = y5) := toList_beq x5 y5
              rcases casesArr x2 y2 x3 y3 x1 y1 x4 y4 x5 y5 with ⟨rfl, rfl, rfl, rfl, rfl⟩ | h | ⟨rfl, h⟩ | ⟨rfl, rfl, h⟩ | ⟨rfl, rfl, rfl, h⟩ | ⟨rfl, rfl, rfl, rfl, h⟩
              all_goals
                go_quiet (fail)
                go_wp2_with fail
                go_meet
                exact ⟨congrArg Value.bool (by rw [Hdq.out]; simp [*]), _, rfl⟩
            case rest =>
              obtain ⟨rfl, nq, rfl⟩ := hcut
              replace hown := hown.drewN nq
              replace hkp := hkp.drewN nq
              obtain ⟨c0, c1, c2, c3, c4⟩ : World.cell? (World.drewN wr nq) _ = some _ ∧ World.cell? (World.drewN wr nq) _ = some _ ∧ World.cell? (World.drewN wr nq) _ = some _ ∧ World.cell? (World.drewN wr nq) _ = some _ ∧ World.cell? (World.drewN wr nq) _ = some _ := Hc.out
              clear Hc d0 d1 d2 d3 d4 Hdq
              generalize World.drewN wr nq = w8 at *
              cases dq
              · replace Hdy2 := Lib.hid (Hdy2.out (by rw [Hks2.out]; rfl))
                obtain ⟨b3, o3, e3, f0, f1, f2, f3, f4⟩ := (HSA.out _ _ hown).arv hic
                cases e3
                simp only [Nat.zero_add] at f0 f1 f2 f3 f4
                have hput := hown.putArr hic (x1, x2, x3, x4, x5)
                obtain ⟨cr, hbxo⟩ := hown.box
                have hfr0 := hbxo.frozen (i * 5)
                have hfr1 := hbxo.frozen (i * 5 + 1)
                have hfr2 := hbxo.frozen (i * 5 + 2)
                have hfr3 := hbxo.frozen (i * 5 + 3)
                have hfr4 := hbxo.frozen (i * 5 + 4)
                have hkp4 := ((((hkp.setCell (p := ⟨g, i * 5, none⟩) (.inl rfl) (.string x1)).setCell (p := ⟨g, i * 5 + 1, none⟩) (.inl rfl) (.int .i64 x2)).setCell (p := ⟨g, i * 5 + 2, none⟩) (.inl rfl) (.int .i64 x3)).setCell (p := ⟨g, i * 5 + 3, none⟩) (.inl rfl) (.string x4)).setCell (p := ⟨g, i * 5 + 4, none⟩) (.inl rfl) (.string x5)
                have Hti : Hid ((cur.set i (x1, x2, x3, x4, x5)).take (i + 1) = dedTo l (k + k2 + 1)) := by
                  show _ = _
                  rw [take_set_succG _ _ _ hic, hti.out, Hdy2.out]
                have Hdj3 : Hid ((cur.set i (x1, x2, x3, x4, x5)).drop (k + k2) = l.drop (k + k2)) := by
                  show _ = _
                  rw [drop_set_ltG _ _ _ _ (by omega)]; exact Hdj2.out
                have hcl3 : (cur.set i (x1, x2, x3, x4, x5)).length = l.length := by rw [List.length_set]; exact hcl
                simp only at hput
                generalize cur.set i (x1, x2, x3, x4, x5) = cur3 at *
                generalize cur[i] = old at *
                clear hown hkp hbxo hti Hdj2 hcl
                go_wp2_with fail
                go_roundg (l.length - (k + (k2 + 1)))
                case measure => have := hgm.out; omega
                case rel => exact ⟨i + 1, k2 + 1, cur3, by go_num, by go_num, by omega, by omega, by omega, rfl, hcl3, Hti, Hdj3, hput, hkp4⟩
              · replace Hdn2 := Lib.hid (Hdn2.out (by rw [Hks2.out]; rfl))
                go_wp2_with fail
                go_roundg (l.length - (k + (k2 + 1)))
                case measure => have := hgm.out; omega
                case rel => exact ⟨i, k2 + 1, cur, rfl, by go_num, by omega, by omega, by omega, rfl, hcl, by show _ = _; rw [hti.out]; exact Hdn2.out.symm, Hdj2, hown, hkp⟩
          · have hkM : k + k2 = l.length := by omega
            rw [hkM, ← HcG.out] at hti
            have hil : i < cur.length := by omega
            obtain ⟨cr, hbxo⟩ := hown.box
            have hsome : ∀ t, t < cur.length * 5 → (wr.cell? ⟨g, t, none⟩).isSome = true := fun t ht => by
              rcases hsac with h | ⟨b', off', he, hh⟩
              · rw [h] at hil; simp at hil
              · cases he
                have hq := Nat.mod_lt t (by decide : 0 < 5)
                have := hh (t / 5) (t % 5) cur[t / 5] (List.getElem?_eq_getElem (by omega)) hq
                rw [show 0 + (t / 5 * Cel.k Arv + t % 5) = t by show 0 + (t / 5 * 5 + t % 5) = t; omega] at this
                rw [this, List.getElem?_eq_getElem (by rw [Cel.len]; exact hq)]
                rfl
            obtain ⟨vs, hvl, hclr⟩ := run_clearArr wr g (i * 5) (l.length - i) (cap - i) (by omega) (fun t ht => hsome _ (by omega)) (fun t ht => hbxo.frozen _)
            have hAr : ArrAt (wr.setCells g (i * 5) vs) g 0 (dedL l) := by
              rw [← hti.out]
              intro t jj x hx hj'
              rw [List.getElem?_take] at hx
              have hti' : t < i := by
                by_cases h : t < i
                · exact h
                · rw [if_neg h] at hx; cases hx
              rw [if_pos hti'] at hx
              have hjj : jj < 5 := hj'
              rw [World.cell?_setCells_out g vs (i * 5) wr _ (fun _ _ => .inl (by show 0 + (t * 5 + jj) < i * 5; omega))]
              rcases hsac with h | ⟨b', off', he, hh⟩
              · rw [h] at hil; simp at hil
              · cases he; exact hh t jj x hx hj'
            have hSA : SA (wr.setCells g (i * 5) vs) (some ⟨g, 0, none⟩) (dedL l) := .inr ⟨g, 0, rfl, hAr⟩
            have hKP := hkp.trans (cells_out vs (i * 5) (fun j => (Value.slice (some ⟨g, 0, none⟩) l.length cap).ownBlock = some j) rfl)
            have Hil : Hid ((dedL l).length = i) := by
              show _ = _
              rw [← hti.out, List.length_take]; omega
            have HOW := Lib.hid (hown.turnedN (fun c hc => hc.sets vs (i * 5)) (by rw [Hil.out]; omega) hAr)
            clear hAr
            have hi2 : (i : Int) ≤ (l.length : Int) := by omega
            have hi3 : (i : Int) ≤ (cap : Int) := by omega
            have hci : ¬ cap = i := by omega
            have hj2 : ¬ ((k2 : Int) < ((l.length - k : Nat) : Int)) := by omega
            have HSA2 := Lib.hid hSA
            have HKP := Lib.hid hKP
            clear hgm hsome hbxo hsac hown hSA hKP hkp hil hti hcl hdj hkM
            go_wp2_with fail
            go_ret
            exact ⟨some ⟨g, 0, none⟩, cap, by rw [Hil.out] <;> rfl, HSA2.out, HKP.out, fun x hx => by cases hx; rfl, HOW.out⟩
    · obtain rfl : k = l.length := by omega
      have hcl : dedL l = l := by rw [HcG.out, Hda.out _ (Nat.le_refl _) hall.out, List.take_length]
      have Hcl := Lib.hid hcl
      clear hcl
      go_wp2_with fail
      go_ret
      exact ⟨some ⟨g, 0, none⟩, cap, by rw [Hcl.out] <;> rfl, by rw [Hcl.out]; exact hsar, hkpr, fun x hx => by cases hx; rfl, by rw [Hcl.out]; exact hownr⟩
end Go.Proofs.YtifflpilnpcmoaaGreatDoor
