/- slices.DeleteFunc of strings. -/
import Derived.Test.YthajoedabjfaaaaGreatDoorKeep
import Derived.Lib.SliceRun
namespace Go.Proofs.YthajoedabjfaaaaGreatDoor
open Go.RowKit Go.Sort
set_option linter.unusedVariables false
set_option linter.unusedSimpArgs false

/-- clear of a slice of strings. -/
theorem run_clear_strs (w : World) (b o n c : Nat) (hn : 0 < n) (hc : ∀ j, j < n → (w.cell? ⟨b, o + j, none⟩).isSome = true) (hf : ∀ j, j < n → w.frozen? ⟨b, o + j, none⟩ = false) :
    ∃ vs : List Value, vs.length = n ∧ ∀ ty, (Builtin.clear_ #[26] ty #[.slice (some ⟨b, o, none⟩) n c]).run Tryz.prog w = .ok (.tuple #[]) (w.setCells b o vs) := by
  have hlen : (Builtin.zeroCells #[.string ⟨#[]⟩] n).toList.length = n := by simp [Builtin.zeroCells]
  have hone : ∀ v ∈ (Builtin.zeroCells #[.string ⟨#[]⟩] n).toList, v.oneCell' = true := by
    intro v hv
    simp only [Builtin.zeroCells, Array.toList_map, List.mem_map] at hv
    obtain ⟨i, _, rfl⟩ := hv
    have h3 : i % 1 = 0 := Nat.mod_one i
    show (#[Value.string ⟨#[]⟩][i % 1]!).oneCell' = true
    rw [h3]; rfl
  generalize hz : (Builtin.zeroCells #[.string ⟨#[]⟩] n).toList = vs at *
  have hst := run_storeCells_cells (P := Tryz.prog) b o vs 0 w (by rw [hlen]; simpa using hc) (by rw [hlen]; simpa using hf) hone
  simp only [Nat.add_zero] at hst
  obtain ⟨m, rfl⟩ : ∃ m, n = m + 1 := ⟨n - 1, by omega⟩
  refine ⟨vs, hlen, fun ty => ?_⟩
  have hv : (zeroValue 9).run Tryz.prog w = .ok (.string ⟨#[]⟩) w := Tryz.zeroValue9 w
  simp [Builtin.clear_, run_underlying Tryz.underlying26, hv, Value.cells, hz, hst]

set_option maxHeartbeats 1000000 in
/-- The first mark of which a function says true, or -1. -/
theorem idxStr_any (l : List ByteArray) (a : Option Addr) (cap g : Nat) (lb : Array Value) (q : ByteArray → Bool) (k0 : Nat) (W : World) (hs : SA W a l) (hl : l.length ≤ 1000000) (eg : ∀ args w, (callFunc g args).run Tryz.prog w = .ok (.enter g args) w)
    (hc : ∀ W' x, x ∈ l → Below W.heap.size W W' → Calls Tryz.prog g (#[.string x] ++ lb) W' (Gives (.bool (q x)) W')) (hk0 : k0 ≤ l.length) (hq : ∀ h : k0 < l.length, q l[k0] = true) (hfirst : ∀ j (hj : j < k0), q (l[j]'(by omega)) = false) :
    Calls Tryz.prog 81 #[.slice a l.length cap, .func (.func g) #[] lb] W (Gives (.int .i64 (if k0 < l.length then (k0 : Int) else -1)) W) := by
  have HC := Lib.hid hc
  have HQ := Lib.hid hq
  have HF := Lib.hid hfirst
  have HR1 : Hid (k0 < l.length → (if k0 < l.length then (k0 : Int) else -1) = k0) := fun h => by rw [if_pos h]
  have HR2 : Hid (¬ k0 < l.length → (if k0 < l.length then (k0 : Int) else -1) = -1) := fun h => by rw [if_neg h]
  generalize (if k0 < l.length then (k0 : Int) else -1) = res at *
  clear hc hq hfirst
  go_enter Tryz.func81, Tryz.ntmps81
  go_wp2_with fail
  go_loopg [8] l.length (fun gk i wr => ∃ k : Nat, i = .int .i64 k ∧ k ≤ k0 ∧ Hid (gk = l.length - k) ∧ Below W.heap.size W wr)
  case atStart => exact ⟨0, rfl, by omega, rfl, Below.refl _ _⟩
  case round =>
    obtain ⟨k, rfl, hk, hgk, hb⟩ := hrel
    by_cases hlt : k < l.length
    · obtain ⟨b, off, ha, c0⟩ := (hs.below hb).str hlt
      have HCx := Lib.hid (HC.out wr l[k] (List.getElem_mem hlt) hb)
      rw [ha]
      by_cases hkk : k = k0
      · subst hkk
        rw [HQ.out hlt] at HCx
        have HR := Lib.hid (HR1.out hlt)
        generalize l[k] = x at *
        (try simp only at c0 HCx)
        go_wp2_with (go_at_fn g; refine HCx.out.mono ?_; rintro e w1 ⟨rfl, hb1⟩)
        go_ret
        exact ⟨by rw [HR.out] <;> rfl, below_next hb hb1⟩
      · rw [HF.out k (by omega)] at HCx
        generalize l[k] = x at *
        (try simp only at c0 HCx)
        go_wp2_with (go_at_fn g; refine HCx.out.mono ?_; rintro e w1 ⟨rfl, hb1⟩)
        rw [← ha]
        go_roundg (l.length - (k + 1))
        case measure => have := hgk.out; omega
        case rel => exact ⟨k + 1, by go_num, by omega, rfl, below_next hb hb1⟩
    · have HR := Lib.hid (HR2.out (by omega))
      go_wp2_with fail
      go_ret
      exact ⟨by rw [HR.out] <;> rfl, hb⟩

/-- A first mark of which a function says true, or the length. -/
theorem first_hitS (q : ByteArray → Bool) : ∀ l : List ByteArray, ∃ k0, k0 ≤ l.length ∧ (∀ h : k0 < l.length, q l[k0] = true) ∧ ∀ j (hj : j < k0) (hl : j < l.length), q l[j] = false
  | [] => ⟨0, Nat.le_refl _, fun h => absurd h (Nat.lt_irrefl _), fun j hj => absurd hj (Nat.not_lt_zero _)⟩
  | x :: r => by
    cases hx : q x
    · obtain ⟨k, h1, h2, h3⟩ := first_hitS q r
      refine ⟨k + 1, by simpa using h1, fun h => by simpa using h2 (by simpa using h), fun j hj hl => ?_⟩
      cases j with
      | zero => simpa using hx
      | succ j => simpa using h3 j (by omega) (by simpa using hl)
    · exact ⟨0, Nat.zero_le _, fun _ => by simpa using hx, fun j hj => absurd hj (Nat.not_lt_zero _)⟩
theorem filter_take_allS (q : ByteArray → Bool) (l : List ByteArray) (k : Nat) (h : ∀ j (hj : j < k) (hl : j < l.length), q l[j] = true) : (l.take k).filter q = l.take k := by
  rw [List.filter_eq_self]
  intro x hx
  obtain ⟨j, hj, rfl⟩ := List.mem_iff_getElem.1 hx
  rw [List.length_take] at hj
  rw [List.getElem_take]
  exact h j (by omega) (by omega)
theorem take_set_succS (s : List ByteArray) (i : Nat) (x : ByteArray) (h : i < s.length) : (s.set i x).take (i + 1) = s.take i ++ [x] := by
  rw [List.take_succ_eq_append_getElem (by rw [List.length_set]; exact h), List.getElem_set_self]
  congr 1
  apply List.ext_getElem?
  intro k
  rw [List.getElem?_take, List.getElem?_take, List.getElem?_set]
  split
  · rw [if_neg (by omega)]
  · rfl
theorem drop_set_ltS (s : List ByteArray) (i j : Nat) (x : ByteArray) (h : i < j) : (s.set i x).drop j = s.drop j := by
  apply List.ext_getElem?
  intro k
  rw [List.getElem?_drop, List.getElem?_drop, List.getElem?_set, if_neg (by omega)]
end Go.Proofs.YthajoedabjfaaaaGreatDoor
