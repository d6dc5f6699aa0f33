/- slices.Compact of places. -/
import Derived.Test.YthajoedabjfaaaaGreatDoorAuthQ
import Derived.Test.YthajoedabjfaaaaGreatDoorKeep
import Derived.Test.YthajoedabjfaaaaGreatDoorMakeGive
import Derived.Lib.SliceRun
import Derived.Laws.StructEq
import Derived.Test.YthajoedabjfaaaaGreatDoorReg
namespace Go.Proofs.YthajoedabjfaaaaGreatDoor
open Go.RowKit Go.Sort
set_option linter.unusedVariables false
set_option linter.unusedSimpArgs false

/-- The place k of a list differs from the one ahead of it. -/
def keepAt (l : List Gv) (k : Nat) : Bool := decide (k = 0 ∨ l[k]? ≠ l[k - 1]?)
def ddTo (l : List Gv) : Nat → List Gv
  | 0 => []
  | k + 1 => ddTo l k ++ if keepAt l k = true then l[k]?.toList else []
/-- A list without repeated neighbours. -/
def compG (l : List Gv) : List Gv := ddTo l l.length
theorem ddTo_yes {l : List Gv} {k : Nat} (hk : k < l.length) (h : keepAt l k = true) : ddTo l (k + 1) = ddTo l k ++ [l[k]] := by
  show ddTo l k ++ (if keepAt l k = true then l[k]?.toList else []) = _
  rw [if_pos h, List.getElem?_eq_getElem hk]
  rfl
theorem ddTo_no {l : List Gv} {k : Nat} (h : keepAt l k = false) : ddTo l (k + 1) = ddTo l k := by
  show ddTo l k ++ (if keepAt l k = true then l[k]?.toList else []) = _
  rw [if_neg (by rw [h]; decide), List.append_nil]
theorem ddTo_all {l : List Gv} : ∀ k, k ≤ l.length → (∀ j, j < k → keepAt l j = true) → ddTo l k = l.take k
  | 0, _, _ => by simp [ddTo]
  | k + 1, hk, h => by
    rw [ddTo_yes (by omega) (h k (Nat.lt_succ_self k)), ddTo_all k (by omega) (fun j hj => h j (by omega)), List.take_succ_eq_append_getElem (by omega)]
theorem ddTo_len (l : List Gv) : ∀ k, (ddTo l k).length ≤ k
  | 0 => Nat.le_refl _
  | k + 1 => by
    have := ddTo_len l k
    show (ddTo l k ++ (if keepAt l k = true then l[k]?.toList else [])).length ≤ k + 1
    rw [List.length_append]
    split
    · have : l[k]?.toList.length ≤ 1 := by cases l[k]? <;> simp
      omega
    · simp; omega
theorem keepAt_succ {l : List Gv} {p : Nat} (h : p + 1 < l.length) : keepAt l (p + 1) = !decide (l[p + 1] = l[p]) := by
  unfold keepAt
  rw [Nat.add_sub_cancel, List.getElem?_eq_getElem h, List.getElem?_eq_getElem (by omega), Bool.eq_iff_iff]
  simp
theorem keepAt_zero (l : List Gv) : keepAt l 0 = true := by unfold keepAt; simp
theorem compG_short {l : List Gv} (h : l.length < 2) : compG l = l := by
  unfold compG
  rw [ddTo_all _ (Nat.le_refl _) (fun j hj => by obtain rfl : j = 0 := by omega
                                                 exact keepAt_zero l), List.take_length]
theorem Own.put4 {w : World} {base g n cap : Nat} {l : List Gv} (h : Own base 42 w (.slice (some ⟨g, 0, none⟩) n cap) l) {i : Nat} (hi : i < l.length) (x : Gv) :
    Own base 42 ((((w.setCell ⟨g, i * 4, none⟩ (.int .i64 x.1)).setCell ⟨g, i * 4 + 1, none⟩ (.int .i64 x.2.1)).setCell ⟨g, i * 4 + 2, none⟩ (.int .i64 x.2.2.1)).setCell ⟨g, i * 4 + 3, none⟩ (.string x.2.2.2)) (.slice (some ⟨g, 0, none⟩) n cap) (l.set i x) := by
  obtain ⟨x1, x2, x3, x4⟩ := x
  have h1 := h.put i 0 (x1, l[i].2.1, l[i].2.2.1, l[i].2.2.2) (.int .i64 x1) hi (by decide) rfl
  have h2 := h1.put i 1 (x1, x2, l[i].2.2.1, l[i].2.2.2) (.int .i64 x2) (by rw [List.length_set]; exact hi) (by decide) (by rw [List.getElem_set_self]; rfl)
  rw [List.set_set] at h2
  have h3 := h2.put i 2 (x1, x2, x3, l[i].2.2.2) (.int .i64 x3) (by rw [List.length_set]; exact hi) (by decide) (by rw [List.getElem_set_self]; rfl)
  rw [List.set_set] at h3
  have h4 := h3.put i 3 (x1, x2, x3, x4) (.string x4) (by rw [List.length_set]; exact hi) (by decide) (by rw [List.getElem_set_self]; rfl)
  rw [List.set_set] at h4
  exact h4
/-- clear of a slice of places. -/
theorem run_clear_gives (w : World) (b o n c : Nat) (hn : 0 < n) (hc : ∀ j, j < n * 4 → (w.cell? ⟨b, o + j, none⟩).isSome = true) (hf : ∀ j, j < n * 4 → w.frozen? ⟨b, o + j, none⟩ = false) :
    ∃ vs : List Value, vs.length = n * 4 ∧ ∀ ty, (Builtin.clear_ #[34] ty #[.slice (some ⟨b, o, none⟩) n c]).run Tryz.prog w = .ok (.tuple #[]) (w.setCells b o vs) := by
  have hlen : (Builtin.zeroCells #[.int .i64 0, .int .i64 0, .int .i64 0, .string ⟨#[]⟩] n).toList.length = n * 4 := by simp [Builtin.zeroCells]
  have hone : ∀ v ∈ (Builtin.zeroCells #[.int .i64 0, .int .i64 0, .int .i64 0, .string ⟨#[]⟩] n).toList, v.oneCell' = true := by
    intro v hv
    simp only [Builtin.zeroCells, Array.toList_map, List.mem_map] at hv
    obtain ⟨i, _, rfl⟩ := hv
    have h3 : i % 4 < 4 := Nat.mod_lt _ (by omega)
    show (#[Value.int .i64 0, .int .i64 0, .int .i64 0, .string ⟨#[]⟩][i % 4]!).oneCell' = true
    generalize i % 4 = m at *
    obtain rfl | rfl | rfl | rfl : m = 0 ∨ m = 1 ∨ m = 2 ∨ m = 3 := by omega
    all_goals rfl
  generalize hz : (Builtin.zeroCells #[.int .i64 0, .int .i64 0, .int .i64 0, .string ⟨#[]⟩] n).toList = vs at *
  have hst := run_storeCells_cells (P := Tryz.prog) b o vs 0 w (by rw [hlen]; simpa using hc) (by rw [hlen]; simpa using hf) hone
  simp only [Nat.add_zero] at hst
  obtain ⟨m, rfl⟩ : ∃ m, n = m + 1 := ⟨n - 1, by omega⟩
  refine ⟨vs, hlen, fun ty => ?_⟩
  have hv : (zeroValue 42).run Tryz.prog w = .ok (.agg #[.int .i64 0, .int .i64 0, .int .i64 0, .string ⟨#[]⟩]) w := Tryz.zeroValue42 w
  simp [Builtin.clear_, run_underlying Tryz.underlying34, hv, Value.cells, hz, hst]
theorem run_eqGv (x1 x2 x3 y1 y2 y3 : Int) (x4 y4 : ByteArray) (w : World) : (binOp .eql 42 (.agg #[.int .i64 x1, .int .i64 x2, .int .i64 x3, .string x4]) (.agg #[.int .i64 y1, .int .i64 y2, .int .i64 y3, .string y4])).run Tryz.prog w = .ok (.bool (decide ((x1, x2, x3, x4) = (y1, y2, y3, y4)))) w := by
  rw [run_eql_struct]
  go_simp
  have e : (x4.toList = y4.toList) ↔ x4 = y4 := toList_inj
  by_cases h1 : x1 = y1 <;> by_cases h2 : x2 = y2 <;> by_cases h3 : x3 = y3 <;> by_cases h4 : x4 = y4 <;> simp [h1, h2, h3, h4, e]
theorem run_neGv (x1 x2 x3 y1 y2 y3 : Int) (x4 y4 : ByteArray) (w : World) : (binOp .neq 42 (.agg #[.int .i64 x1, .int .i64 x2, .int .i64 x3, .string x4]) (.agg #[.int .i64 y1, .int .i64 y2, .int .i64 y3, .string y4])).run Tryz.prog w = .ok (.bool (!decide ((x1, x2, x3, x4) = (y1, y2, y3, y4)))) w := by
  rw [run_neq_struct]
  go_simp
  have e : (x4.toList = y4.toList) ↔ x4 = y4 := toList_inj
  by_cases h1 : x1 = y1 <;> by_cases h2 : x2 = y2 <;> by_cases h3 : x3 = y3 <;> by_cases h4 : x4 = y4 <;> simp [h1, h2, h3, h4, e]
theorem gv_cases (x1 x2 x3 y1 y2 y3 : Int) (x4 y4 : ByteArray) : (x1 = y1 ∧ x2 = y2 ∧ x3 = y3 ∧ x4 = y4) ∨ x1 ≠ y1 ∨ (x1 = y1 ∧ x2 ≠ y2) ∨ (x1 = y1 ∧ x2 = y2 ∧ x3 ≠ y3) ∨ (x1 = y1 ∧ x2 = y2 ∧ x3 = y3 ∧ x4 ≠ y4) := by
  by_cases h1 : x1 = y1 <;> by_cases h2 : x2 = y2 <;> by_cases h3 : x3 = y3 <;> by_cases h4 : x4 = y4 <;> simp [h1, h2, h3, h4]
theorem take_set_succG {α : Type} (s : List α) (i : Nat) (x : α) (h : i < s.length) : (s.set i x).take (i + 1) = s.take i ++ [x] := by
  rw [List.take_succ_eq_append_getElem (by rw [List.length_set]; exact h), List.getElem_set_self, List.take_set_of_le (Nat.le_refl i)]
theorem drop_set_ltG {α : Type} (s : List α) (i j : Nat) (x : α) (h : i < j) : (s.set i x).drop j = s.drop j := by
  rw [List.drop_set_of_lt h]
theorem drop_get {α : Type} {s l : List α} {j i : Nat} (h : s.drop j = l.drop j) (hji : j ≤ i) (h1 : i < s.length) (h2 : i < l.length) : s[i] = l[i] := by
  have e := congrArg (fun z => z[i - j]?) h
  simp only [List.getElem?_drop, show j + (i - j) = i by omega] at e
  rw [List.getElem?_eq_getElem h1, List.getElem?_eq_getElem h2] at e
  exact Option.some.inj e
theorem drop_more {α : Type} {s l : List α} {j i : Nat} (h : s.drop j = l.drop j) (hji : j ≤ i) : s.drop i = l.drop i := by
  have e := congrArg (fun z => z.drop (i - j)) h
  simp only [List.drop_drop, show j + (i - j) = i by omega] at e
  exact e
theorem cells_out {w : World} {g : Nat} : ∀ (vs : List Value) (o : Nat) (X : Nat → Prop), X g → Kp X w (w.setCells g o vs)
  | [], _, X, _ => Kp.refl X w
  | v :: r, o, X, hX => ((Kp.refl X w).setCell (p := ⟨g, o, none⟩) (.inl hX) v).trans (cells_out r (o + 1) X hX)
set_option maxRecDepth 100000 in
set_option maxHeartbeats 16000000 in
theorem compactG_any (base : Nat) (l : List Gv) (v : Value) (w : World) (h : Own base 42 w v l) (hl : l.length ≤ 100000000) :
    Calls Tryz.prog 41 #[v] w (fun e w' => ∃ a cap, e = .returned (.slice a (compG l).length cap) ∧ SA w' a (compG l) ∧ Kp (fun j => v.ownBlock = some j) w w') := by
  obtain ⟨a, cap, rfl, hsa, hab, hcap⟩ := h.form
  by_cases hs : l.length < 2
  · rw [compG_short hs]
    have hd : decide ((l.length : Int) < 2) = true := decide_eq_true (by omega)
    go_enter Tryz.func41, Tryz.ntmps41
    go_wp2_with fail
    go_ret
    exact ⟨a, cap, rfl, hsa, Kp.refl _ _⟩
  · have hd : decide ((l.length : Int) < 2) = false := decide_eq_false (by omega)
    obtain ⟨g, rfl⟩ : ∃ g, a = some ⟨g, 0, none⟩ := by
      rcases hab with rfl | ⟨g, rfl, -⟩
      · rcases hsa with h1 | ⟨b, off, h1, -⟩
        · rw [h1] at hs; exact absurd (by decide) hs
        · cases h1
      · exact ⟨g, rfl⟩
    have Hk0 := Lib.hid (keepAt_zero l)
    have Hks := Lib.hid (fun p (h : p + 1 < l.length) => keepAt_succ h)
    have Hdy := Lib.hid (fun k (hk : k < l.length) (h : keepAt l k = true) => ddTo_yes hk h)
    have Hdn := Lib.hid (fun k (h : keepAt l k = false) => ddTo_no (l := l) h)
    have Hda := Lib.hid (fun k (h : k ≤ l.length) h2 => ddTo_all (l := l) k h h2)
    have HcG : Hid (compG l = ddTo l l.length) := rfl
    have HSA := Lib.hid (fun W (c : List Gv) (h : Own base 42 W (.slice (some ⟨g, 0, none⟩) l.length cap) c) => (show SA W (some ⟨g, 0, none⟩) c by obtain ⟨a', c', he, hh, _⟩ := h.sa; simp only [Value.slice.injEq] at he; rw [he.1]; exact hh))
    go_enter Tryz.func41, Tryz.ntmps41
    go_wp2_with fail
    go_loopg [3] l.length (fun gk i wr => ∃ p k : Nat, i = .int .i64 k ∧ Hid (k = p + 1) ∧ k ≤ l.length ∧ Hid (gk = l.length - p) ∧ Hid (∀ j, j < k → keepAt l j = true) ∧ Own base 42 wr (.slice (some ⟨g, 0, none⟩) l.length cap) l ∧ Kp (fun j => (Value.slice (some ⟨g, 0, none⟩) l.length cap).ownBlock = some j) w wr)
    case atStart => exact ⟨0, 1, rfl, rfl, by omega, rfl, fun j hj => by obtain rfl : j = 0 := by omega
                                                                         exact Hk0.out, h, Kp.refl _ _⟩
    obtain ⟨p, k, rfl, hkp, hk, hgk, hall, hownr, hkpr⟩ := hrel
    have hsar := HSA.out _ _ hownr
    clear hsa h hab
    by_cases hlt : k < l.length
    · obtain ⟨b1, o1, e1, c0, c1, c2, c3⟩ := hsar.giv hlt
      cases e1
      obtain ⟨b2, o2, e2, d0, d1, d2, d3⟩ := hsar.giv (i := p) (by have := hkp.out; omega)
      cases e2
      have hw : IntKind.i64.wrap ((k : Int) - 1) = (p : Int) := by have := hkp.out; rw [IntWalk.i64_in _ (by omega)]; omega
      have hk1 : (0 : Int) ≤ (k : Int) := by omega
      have hk2 : (k : Int) < (l.length : Int) := by omega
      have hp1 : (0 : Int) ≤ (p : Int) := by omega
      have hp2 : (p : Int) < (l.length : Int) := by have := hkp.out; omega
      have Hks2 : Hid (keepAt l k = !decide (l[k] = l[p]'(by have := hkp.out; omega))) := by
        show _ = _
        have e := hkp.out
        subst e
        exact Hks.out p hlt
      generalize l[k] = x at *
      generalize l[p] = y at *
      obtain ⟨x1, x2, x3, x4⟩ := x
      obtain ⟨y1, y2, y3, y4⟩ := y
      simp only [Nat.zero_add] at c0 c1 c2 c3 d0 d1 d2 d3
      obtain ⟨dq, hdq⟩ : ∃ dq, decide ((x1, x2, x3, x4) = (y1, y2, y3, y4)) = dq := ⟨_, rfl⟩
      have Hdq := Lib.hid hdq.symm
      rw [hdq] at Hks2
      clear hdq
      go_upto_region 6 with (fail)
      go_cut [25] from 16 to 26 (fun v wx => v = .bool dq ∧ ∃ nq, wx = World.drewN wr nq)
      case first =>
        have hst4 : (x4.toList == y4.toList) = decide (x4 = y4) := toList_beq x4 y4
        rcases gv_cases x1 x2 x3 y1 y2 y3 x4 y4 with ⟨rfl, rfl, rfl, rfl⟩ | h | ⟨rfl, h⟩ | ⟨rfl, rfl, h⟩ | ⟨rfl, rfl, rfl, h⟩
        all_goals
          go_quiet (fail)
          go_wp2_with fail
          go_meet
          exact ⟨congrArg Value.bool (by rw [Hdq.out]; simp [*]), _, rfl⟩
      case rest =>
        obtain ⟨rfl, nq, rfl⟩ := hcut
        replace hownr := hownr.drewN nq
        replace hkpr := hkpr.drewN nq
        clear c0 c1 c2 c3 d0 d1 d2 d3 Hdq hsar
        generalize World.drewN wr nq = w7 at *
        cases dq
        · have Hkt : Hid (keepAt l k = true) := by show _ = _; rw [Hks2.out]; rfl
          go_wp2_with fail
          go_roundg (l.length - k)
          case measure => have := hgk.out; have := hkp.out; omega
          case rel => exact ⟨k, k + 1, by go_num, rfl, by omega, rfl, fun j hj => by
                        by_cases e : j = k
                        · rw [e]; exact Hkt.out
                        · exact hall.out j (by omega), hownr, hkpr⟩
        · have Hkf : Hid (keepAt l k = false) := by show _ = _; rw [Hks2.out]; rfl
          have Hst : Hid (l.take k = ddTo l (k + 1)) := by show _ = _; rw [Hdn.out k Hkf.out, Hda.out k (by omega) hall.out]
          have hck : ¬ cap = k := by omega
          have hkl : (k : Int) ≤ (l.length : Int) := by omega
          have hlc : (l.length : Int) ≤ (cap : Int) := by omega
          clear Hks2 hkp hgk hall hw hp1 hp2 Hk0 Hda Hkf
          go_wp2_with fail
          go_loopg [3, 5] (l.length - (k + 1)) (fun gm iv jv wr => ∃ (i k2 : Nat) (cur : List Gv), iv = .int .i64 i ∧ jv = .int .i64 k2 ∧ 1 ≤ k2 ∧ k + k2 ≤ l.length ∧ i + 1 ≤ k + k2 ∧ Hid (gm = l.length - (k + k2)) ∧ cur.length = l.length ∧ Hid (cur.take i = ddTo l (k + k2)) ∧ Hid (cur.drop (k + k2 - 1) = l.drop (k + k2 - 1)) ∧ Own base 42 wr (.slice (some ⟨g, 0, none⟩) l.length cap) cur ∧ Kp (fun j => (Value.slice (some ⟨g, 0, none⟩) l.length cap).ownBlock = some j) w wr)
          case atStart => exact ⟨k, 1, l, rfl, rfl, by omega, by omega, by omega, rfl, rfl, Hst, rfl, hownr, hkpr⟩
          clear hownr hkpr Hst
          obtain ⟨i, k2, cur, rfl, rfl, hk21, hk22, hik, hgm, hcl, hti, hdj, hown, hkp⟩ := hrel
          have hsac := HSA.out _ _ hown
          have hi1 : (0 : Int) ≤ (i : Int) := by omega
          by_cases hl2 : k2 < l.length - k
          · obtain ⟨p2, hp2⟩ : ∃ p2, k2 - 1 = p2 := ⟨_, rfl⟩
            have hwp : IntKind.i64.wrap ((k2 : Int) - 1) = (p2 : Int) := by rw [IntWalk.i64_in _ (by omega)]; omega
            have hkk : k + k2 < l.length := by omega
            have hkq : k + p2 < l.length := by omega
            have hkc : k + k2 < cur.length := by omega
            have hqc : k + p2 < cur.length := by omega
            have hic : i < cur.length := by omega
            obtain ⟨b1, o1, e1, c0, c1, c2, c3⟩ := hsac.giv hkc
            cases e1
            obtain ⟨b2, o2, e2, d0, d1, d2, d3⟩ := hsac.giv hqc
            cases e2
            have ex := drop_get hdj.out (by omega) hkc hkk
            have ey := drop_get hdj.out (by omega) hqc hkq
            rw [show 0 + (k + k2) * 4 = k * 4 + k2 * 4 by omega, ex] at c0 c1 c2 c3
            rw [show 0 + (k + p2) * 4 = k * 4 + p2 * 4 by omega, ey] at d0 d1 d2 d3
            have Hks2 : Hid (keepAt l (k + k2) = !decide (l[k + k2] = l[k + p2])) := by
              show _ = _
              have : ∀ n (hn : n < l.length), n = k + p2 + 1 → keepAt l n = !decide (l[n] = l[k + p2]) := fun n hn e => by
                subst e
                exact Hks.out (k + p2) hn
              exact this _ hkk (by omega)
            have Hdy2 := Lib.hid (fun h => Hdy.out (k + k2) hkk h)
            have Hdn2 := Lib.hid (fun h => Hdn.out (k + k2) h)
            have Hdj2 : Hid (cur.drop (k + k2) = l.drop (k + k2)) := drop_more hdj.out (by omega)
            have hj1 : (0 : Int) ≤ (k2 : Int) := by omega
            have hj2 : (k2 : Int) < ((l.length - k : Nat) : Int) := by omega
            have hj3 : (0 : Int) ≤ (p2 : Int) := by omega
            have hj4 : (p2 : Int) < ((l.length - k : Nat) : Int) := by omega
            have hi2 : (i : Int) < (l.length : Int) := by omega
            clear ex ey hdj hsac
            have Hx : Hid (∃ x, x = l[k + k2]) := ⟨_, rfl⟩
            generalize l[k + k2] = x at *
            generalize l[k + p2] = y at *
            obtain ⟨x1, x2, x3, x4⟩ := x
            obtain ⟨y1, y2, y3, y4⟩ := y
            simp only at c0 c1 c2 c3 d0 d1 d2 d3
            obtain ⟨dq, hdq⟩ : ∃ dq, decide ((x1, x2, x3, x4) = (y1, y2, y3, y4)) = dq := ⟨_, rfl⟩
            have Hdq := Lib.hid hdq.symm
            rw [hdq] at Hks2
            clear hdq
            have Hc := Lib.hid (And.intro c0 (And.intro c1 (And.intro c2 c3)))
            go_upto_region 11 with (fail)
            go_cut [44] from 35 to 45 (fun v wx => v = .bool (!dq) ∧ ∃ nq, wx = World.drewN wr nq)
            case first =>
              have hst4 : (x4.toList == y4.toList) = decide (x4 = y4) := toList_beq x4 y4
              rcases gv_cases x1 x2 x3 y1 y2 y3 x4 y4 with ⟨rfl, rfl, rfl, rfl⟩ | h | ⟨rfl, h⟩ | ⟨rfl, rfl, h⟩ | ⟨rfl, rfl, rfl, h⟩
              all_goals
                go_quiet (fail)
                go_wp2_with fail
                go_meet
                exact ⟨congrArg Value.bool (by rw [Hdq.out]; simp [*]), _, rfl⟩
            case rest =>
              obtain ⟨rfl, nq, rfl⟩ := hcut
              replace hown := hown.drewN nq
              replace hkp := hkp.drewN nq
              obtain ⟨c0, c1, c2, c3⟩ : World.cell? (World.drewN wr nq) _ = some _ ∧ World.cell? (World.drewN wr nq) _ = some _ ∧ World.cell? (World.drewN wr nq) _ = some _ ∧ World.cell? (World.drewN wr nq) _ = some _ := Hc.out
              clear Hc d0 d1 d2 d3 Hdq
              generalize World.drewN wr nq = w8 at *
              cases dq
              · replace Hdy2 := Lib.hid (Hdy2.out (by rw [Hks2.out]; rfl))
                obtain ⟨b3, o3, e3, f0, f1, f2, f3⟩ := (HSA.out _ _ hown).giv hic
                cases e3
                simp only [Nat.zero_add] at f0 f1 f2 f3
                have hput := hown.put4 hic (x1, x2, x3, x4)
                obtain ⟨cr, hbxo⟩ := hown.box
                have hfr0 := hbxo.frozen (i * 4)
                have hfr1 := hbxo.frozen (i * 4 + 1)
                have hfr2 := hbxo.frozen (i * 4 + 2)
                have hfr3 := hbxo.frozen (i * 4 + 3)
                have hkp4 := (((hkp.setCell (p := ⟨g, i * 4, none⟩) (.inl rfl) (.int .i64 x1)).setCell (p := ⟨g, i * 4 + 1, none⟩) (.inl rfl) (.int .i64 x2)).setCell (p := ⟨g, i * 4 + 2, none⟩) (.inl rfl) (.int .i64 x3)).setCell (p := ⟨g, i * 4 + 3, none⟩) (.inl rfl) (.string x4)
                have Hti : Hid ((cur.set i (x1, x2, x3, x4)).take (i + 1) = ddTo l (k + k2 + 1)) := by
                  show _ = _
                  rw [take_set_succG _ _ _ hic, hti.out, Hdy2.out]
                have Hdj3 : Hid ((cur.set i (x1, x2, x3, x4)).drop (k + k2) = l.drop (k + k2)) := by
                  show _ = _
                  rw [drop_set_ltG _ _ _ _ (by omega)]; exact Hdj2.out
                have hcl3 : (cur.set i (x1, x2, x3, x4)).length = l.length := by rw [List.length_set]; exact hcl
                simp only at hput
                generalize cur.set i (x1, x2, x3, x4) = cur3 at *
                generalize cur[i] = old at *
                clear hown hkp hbxo hti Hdj2 hcl
                go_wp2_with fail
                go_roundg (l.length - (k + (k2 + 1)))
                case measure => have := hgm.out; omega
                case rel => exact ⟨i + 1, k2 + 1, cur3, by go_num, by go_num, by omega, by omega, by omega, rfl, hcl3, Hti, Hdj3, hput, hkp4⟩
              · replace Hdn2 := Lib.hid (Hdn2.out (by rw [Hks2.out]; rfl))
                go_wp2_with fail
                go_roundg (l.length - (k + (k2 + 1)))
                case measure => have := hgm.out; omega
                case rel => exact ⟨i, k2 + 1, cur, rfl, by go_num, by omega, by omega, by omega, rfl, hcl, by show _ = _; rw [hti.out]; exact Hdn2.out.symm, Hdj2, hown, hkp⟩
          · have hkM : k + k2 = l.length := by omega
            rw [hkM, ← HcG.out] at hti
            have hil : i < cur.length := by omega
            obtain ⟨cr, hbxo⟩ := hown.box
            have hsome : ∀ t, t < cur.length * 4 → (wr.cell? ⟨g, t, none⟩).isSome = true := fun t ht => by
              rcases hsac with h | ⟨b', off', he, hh⟩
              · rw [h] at hil; simp at hil
              · cases he
                have hq := Nat.mod_lt t (by decide : 0 < 4)
                have := hh (t / 4) (t % 4) cur[t / 4] (List.getElem?_eq_getElem (by omega)) hq
                rw [show 0 + (t / 4 * Cel.k Gv + t % 4) = t by show 0 + (t / 4 * 4 + t % 4) = t; omega] at this
                rw [this, List.getElem?_eq_getElem (by rw [Cel.len]; exact hq)]
                rfl
            obtain ⟨vs, hvl, hclr⟩ := run_clear_gives wr g (i * 4) (l.length - i) (cap - i) (by omega) (fun t ht => hsome _ (by omega)) (fun t ht => hbxo.frozen _)
            have hSA : SA (wr.setCells g (i * 4) vs) (some ⟨g, 0, none⟩) (compG l) := by
              rw [← hti.out]
              refine .inr ⟨g, 0, rfl, fun t jj x hx hj' => ?_⟩
              rw [List.getElem?_take] at hx
              have hti' : t < i := by
                by_cases h : t < i
                · exact h
                · rw [if_neg h] at hx; cases hx
              rw [if_pos hti'] at hx
              have hjj : jj < 4 := hj'
              rw [World.cell?_setCells_out g vs (i * 4) wr _ (fun _ _ => .inl (by show 0 + (t * 4 + jj) < i * 4; omega))]
              rcases hsac with h | ⟨b', off', he, hh⟩
              · rw [h] at hil; simp at hil
              · cases he; exact hh t jj x hx hj'
            have hKP := hkp.trans (cells_out vs (i * 4) (fun j => (Value.slice (some ⟨g, 0, none⟩) l.length cap).ownBlock = some j) rfl)
            have Hil : Hid ((compG l).length = i) := by
              show _ = _
              rw [← hti.out, List.length_take]; omega
            have hi2 : (i : Int) ≤ (l.length : Int) := by omega
            have hi3 : (i : Int) ≤ (cap : Int) := by omega
            have hci : ¬ cap = i := by omega
            have hj2 : ¬ ((k2 : Int) < ((l.length - k : Nat) : Int)) := by omega
            have HSA2 := Lib.hid hSA
            have HKP := Lib.hid hKP
            clear hgm hsome hbxo hsac hown hSA hKP hkp hil hti hcl hdj hkM
            go_wp2_with fail
            go_ret
            exact ⟨some ⟨g, 0, none⟩, ⟨cap, by rw [Hil.out] <;> rfl⟩, HSA2.out, HKP.out⟩
    · obtain rfl : k = l.length := by omega
      have hcl : compG l = l := by rw [HcG.out, Hda.out _ (Nat.le_refl _) hall.out, List.take_length]
      have Hcl := Lib.hid hcl
      clear hcl
      go_wp2_with fail
      go_ret
      exact ⟨some ⟨g, 0, none⟩, cap, by rw [Hcl.out] <;> rfl, by rw [Hcl.out]; exact hsar, hkpr⟩
end Go.Proofs.YthajoedabjfaaaaGreatDoor
