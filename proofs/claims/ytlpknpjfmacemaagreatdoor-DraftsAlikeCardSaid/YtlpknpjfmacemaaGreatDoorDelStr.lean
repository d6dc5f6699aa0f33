/- slices.DeleteFunc of strings. -/
import Derived.Test.YtlpknpjfmacemaaGreatDoorKeep
import Derived.Lib.SliceRun
namespace Go.Proofs.YtlpknpjfmacemaaGreatDoor
open Go.RowKit Go.Sort
set_option linter.unusedVariables false
set_option linter.unusedSimpArgs false

/-- clear of a slice of strings. -/
theorem run_clear_strs (w : World) (b o n c : Nat) (hn : 0 < n) (hc : ∀ j, j < n → (w.cell? ⟨b, o + j, none⟩).isSome = true) (hf : ∀ j, j < n → w.frozen? ⟨b, o + j, none⟩ = false) :
    ∃ vs : List Value, vs.length = n ∧ ∀ ty, (Builtin.clear_ #[27] ty #[.slice (some ⟨b, o, none⟩) n c]).run Tryz.prog w = .ok (.tuple #[]) (w.setCells b o vs) := by
  have hlen : (Builtin.zeroCells #[.string ⟨#[]⟩] n).toList.length = n := by simp [Builtin.zeroCells]
  have hone : ∀ v ∈ (Builtin.zeroCells #[.string ⟨#[]⟩] n).toList, v.oneCell' = true := by
    intro v hv
    simp only [Builtin.zeroCells, Array.toList_map, List.mem_map] at hv
    obtain ⟨i, _, rfl⟩ := hv
    have h3 : i % 1 = 0 := Nat.mod_one i
    show (#[Value.string ⟨#[]⟩][i % 1]!).oneCell' = true
    rw [h3]; rfl
  generalize hz : (Builtin.zeroCells #[.string ⟨#[]⟩] n).toList = vs at *
  have hst := run_storeCells_cells (P := Tryz.prog) b o vs 0 w (by rw [hlen]; simpa using hc) (by rw [hlen]; simpa using hf) hone
  simp only [Nat.add_zero] at hst
  obtain ⟨m, rfl⟩ : ∃ m, n = m + 1 := ⟨n - 1, by omega⟩
  refine ⟨vs, hlen, fun ty => ?_⟩
  have hv : (zeroValue 9).run Tryz.prog w = .ok (.string ⟨#[]⟩) w := Tryz.zeroValue9 w
  simp [Builtin.clear_, run_underlying Tryz.underlying27, hv, Value.cells, hz, hst]

set_option maxHeartbeats 1000000 in
/-- The first mark of which a function says true, or -1. -/
theorem idxStr_any (l : List ByteArray) (a : Option Addr) (cap g : Nat) (lb : Array Value) (q : ByteArray → Bool) (k0 : Nat) (W : World) (hs : SA W a l) (hl : l.length ≤ 1000000) (eg : ∀ args w, (callFunc g args).run Tryz.prog w = .ok (.enter g args) w)
    (hc : ∀ W' x, x ∈ l → Below W.heap.size W W' → Calls Tryz.prog g (#[.string x] ++ lb) W' (Gives (.bool (q x)) W')) (hk0 : k0 ≤ l.length) (hq : ∀ h : k0 < l.length, q l[k0] = true) (hfirst : ∀ j (hj : j < k0), q (l[j]'(by omega)) = false) :
    Calls Tryz.prog 147 #[.slice a l.length cap, .func (.func g) #[] lb] W (Gives (.int .i64 (if k0 < l.length then (k0 : Int) else -1)) W) := by
  have HC := Lib.hid hc
  have HQ := Lib.hid hq
  have HF := Lib.hid hfirst
  have HR1 : Hid (k0 < l.length → (if k0 < l.length then (k0 : Int) else -1) = k0) := fun h => by rw [if_pos h]
  have HR2 : Hid (¬ k0 < l.length → (if k0 < l.length then (k0 : Int) else -1) = -1) := fun h => by rw [if_neg h]
  generalize (if k0 < l.length then (k0 : Int) else -1) = res at *
  clear hc hq hfirst
  go_enter Tryz.func147, Tryz.ntmps147
  go_wp2_with fail
  go_loopg [8] l.length (fun gk i wr => ∃ k : Nat, i = .int .i64 k ∧ k ≤ k0 ∧ Hid (gk = l.length - k) ∧ Below W.heap.size W wr)
  case atStart => exact ⟨0, rfl, by omega, rfl, Below.refl _ _⟩
  case round =>
    obtain ⟨k, rfl, hk, hgk, hb⟩ := hrel
    by_cases hlt : k < l.length
    · obtain ⟨b, off, ha, c0⟩ := (hs.below hb).str hlt
      have HCx := Lib.hid (HC.out wr l[k] (List.getElem_mem hlt) hb)
      rw [ha]
      by_cases hkk : k = k0
      · subst hkk
        rw [HQ.out hlt] at HCx
        have HR := Lib.hid (HR1.out hlt)
        generalize l[k] = x at *
        (try simp only at c0 HCx)
        go_wp2_with (go_at_fn g; refine HCx.out.mono ?_; rintro e w1 ⟨rfl, hb1⟩)
        go_ret
        exact ⟨by rw [HR.out] <;> rfl, below_next hb hb1⟩
      · rw [HF.out k (by omega)] at HCx
        generalize l[k] = x at *
        (try simp only at c0 HCx)
        go_wp2_with (go_at_fn g; refine HCx.out.mono ?_; rintro e w1 ⟨rfl, hb1⟩)
        rw [← ha]
        go_roundg (l.length - (k + 1))
        case measure => have := hgk.out; omega
        case rel => exact ⟨k + 1, by go_num, by omega, rfl, below_next hb hb1⟩
    · have HR := Lib.hid (HR2.out (by omega))
      go_wp2_with fail
      go_ret
      exact ⟨by rw [HR.out] <;> rfl, hb⟩

/-- A first mark of which a function says true, or the length. -/
theorem first_hitS (q : ByteArray → Bool) : ∀ l : List ByteArray, ∃ k0, k0 ≤ l.length ∧ (∀ h : k0 < l.length, q l[k0] = true) ∧ ∀ j (hj : j < k0) (hl : j < l.length), q l[j] = false
  | [] => ⟨0, Nat.le_refl _, fun h => absurd h (Nat.lt_irrefl _), fun j hj => absurd hj (Nat.not_lt_zero _)⟩
  | x :: r => by
    cases hx : q x
    · obtain ⟨k, h1, h2, h3⟩ := first_hitS q r
      refine ⟨k + 1, by simpa using h1, fun h => by simpa using h2 (by simpa using h), fun j hj hl => ?_⟩
      cases j with
      | zero => simpa using hx
      | succ j => simpa using h3 j (by omega) (by simpa using hl)
    · exact ⟨0, Nat.zero_le _, fun _ => by simpa using hx, fun j hj => absurd hj (Nat.not_lt_zero _)⟩
theorem filter_take_allS (q : ByteArray → Bool) (l : List ByteArray) (k : Nat) (h : ∀ j (hj : j < k) (hl : j < l.length), q l[j] = true) : (l.take k).filter q = l.take k := by
  rw [List.filter_eq_self]
  intro x hx
  obtain ⟨j, hj, rfl⟩ := List.mem_iff_getElem.1 hx
  rw [List.length_take] at hj
  rw [List.getElem_take]
  exact h j (by omega) (by omega)
theorem take_set_succS (s : List ByteArray) (i : Nat) (x : ByteArray) (h : i < s.length) : (s.set i x).take (i + 1) = s.take i ++ [x] := by
  rw [List.take_succ_eq_append_getElem (by rw [List.length_set]; exact h), List.getElem_set_self]
  congr 1
  apply List.ext_getElem?
  intro k
  rw [List.getElem?_take, List.getElem?_take, List.getElem?_set]
  split
  · rw [if_neg (by omega)]
  · rfl
theorem drop_set_ltS (s : List ByteArray) (i j : Nat) (x : ByteArray) (h : i < j) : (s.set i x).drop j = s.drop j := by
  apply List.ext_getElem?
  intro k
  rw [List.getElem?_drop, List.getElem?_drop, List.getElem?_set, if_neg (by omega)]
set_option maxRecDepth 100000 in
set_option maxHeartbeats 4000000 in
/-- The marks of which a function says false are left. -/
theorem deleteStr_any (base : Nat) (l : List ByteArray) (v : Value) (g : Nat) (lb : Array Value) (q : ByteArray → Bool) (w : World) (hown : Own base 9 w v l) (hl : l.length ≤ 1000000) (eg : ∀ args w, (callFunc g args).run Tryz.prog w = .ok (.enter g args) w)
    (hc : ∀ W' x, x ∈ l → Kp (fun k => v.ownBlock = some k) w W' → Calls Tryz.prog g (#[.string x] ++ lb) W' (Gives (.bool (q x)) W')) :
    Calls Tryz.prog 134 #[v, .func (.func g) #[] lb] w (fun e w' => ∃ a cap, e = .returned (.slice a (l.filter (fun x => !q x)).length cap) ∧ SA w' a (l.filter (fun x => !q x)) ∧ (l.filter (fun x => !q x)).length ≤ cap ∧ Kp (fun k => v.ownBlock = some k) w w') := by
  obtain ⟨a, cap, rfl, hsa, hf, hcap⟩ := hown.form
  obtain ⟨k0, hk0, hq, hfirst⟩ := first_hitS q l
  have HC := Lib.hid hc
  have HI := Lib.hid (idxStr_any l a cap g lb q k0 w hsa hl eg (fun W' x hx hb => hc W' x hx (Kp.of_below hb)) hk0 hq (fun j hj => hfirst j hj (by omega)))
  by_cases hk : k0 < l.length
  · rw [if_pos hk] at HI
    rcases hf with rfl | ⟨gs, rfl, hg1, hg2⟩
    · obtain ⟨b, off, ha, _⟩ := hsa.str hk
      cases ha
    have hne : ((k0 : Int) == -1) = false := beq_eq_false_iff_ne.2 (by omega)
    have hst0 : Hid (l.take k0 = (l.take (k0 + 1)).filter (fun x => !q x)) := by
      show _ = _
      rw [List.take_succ_eq_append_getElem hk, List.filter_append, filter_take_allS _ _ _ (fun j hj hl' => by rw [hfirst j hj hl']; rfl)]
      simp [hq hk]
    have Hlt := Lib.hid hk
    clear hc hsa hq hfirst hk
    go_enter Tryz.func134, Tryz.ntmps134
    go_wp2_with fail
    refine HI.out.mono ?_
    rintro e w1 ⟨rfl, hb1⟩
    have hown1 := hown.below hb1
    have hk1 : Kp (fun k => (Value.slice (some ⟨gs, 0, none⟩) l.length cap).ownBlock = some k) w w1 := Kp.of_below hb1
    have hklt := Hlt.out
    have hg21 : gs < w1.heap.size := by have := hb1.size; omega
    clear hown HI hb1
    go_wp2_with fail
    go_loopg [5, 6, 7] l.length (fun gk iv jv _ wr => ∃ (i j : Nat) (cur : List ByteArray), iv = .int .i64 i ∧ jv = .int .i64 j ∧ i < j ∧ j ≤ l.length ∧ l.length - j ≤ gk ∧ cur.length = l.length ∧ Hid (cur.take i = (l.take j).filter (fun x => !q x)) ∧ Hid (cur.drop j = l.drop j) ∧ Own base 9 wr (.slice (some ⟨gs, 0, none⟩) l.length cap) cur ∧ Kp (fun k => (Value.slice (some ⟨gs, 0, none⟩) l.length cap).ownBlock = some k) w wr ∧ gs < wr.heap.size)
    case atStart => exact ⟨k0, k0 + 1, l, rfl, by go_num, by omega, by omega, by omega, rfl, hst0, rfl, hown1, hk1, hg21⟩
    case round =>
      clear hown1 hk1 hst0
      obtain ⟨i, j, cur, rfl, rfl, hij, hj, hgk, hcl, hti, hdj, hown, hkp, hgw⟩ := hrel
      have hsac : SA wr (some ⟨gs, 0, none⟩) cur := by obtain ⟨a', c', he, hh, _⟩ := hown.sa; simp only [Value.slice.injEq] at he; rw [he.1]; exact hh
      by_cases hlt : j < l.length
      · have hjc : j < cur.length := by omega
        have hic : i < cur.length := by omega
        have hel : cur[j] = l[j] := by
          have h1 := congrArg (fun z => z[0]?) hdj.out
          simp only [List.getElem?_drop, Nat.add_zero] at h1
          rw [List.getElem?_eq_getElem hjc, List.getElem?_eq_getElem hlt] at h1
          exact Option.some.inj h1
        obtain ⟨mb, moff, ha', c0⟩ := hsac.str hjc
        cases ha'
        rw [Nat.zero_add] at c0
        rw [hel] at c0
        have Hf : Hid ((l.take (j + 1)).filter (fun x => !q x) = (l.take j).filter (fun x => !q x) ++ if q l[j] then [] else [l[j]]) := by
          show _ = _
          rw [List.take_succ_eq_append_getElem hlt, List.filter_append]
          cases hq0 : q l[j] <;> simp [hq0]
        have HCx := fun W' hW => HC.out W' l[j] (List.getElem_mem hlt) hW
        have Hdj : Hid (cur.drop (j + 1) = l.drop (j + 1)) := by
          show _ = _
          have h1 := congrArg (fun z => z.drop 1) hdj.out
          simpa [List.drop_drop, Nat.add_comm] using h1
        generalize l[j] = x at *
        (try simp only at c0 HCx)
        have HCy := Lib.hid (HCx _ hkp)
        have hown1 := hown
        have hkp1 := hkp
        have hj1 : (0 : Int) ≤ (j : Int) := by omega
        have hj2 : (j : Int) < (l.length : Int) := by omega
        have hi1 : (0 : Int) ≤ (i : Int) := by omega
        have hi2 : (i : Int) < (l.length : Int) := by omega
        clear HCx hel hown hkp hsac hdj
        cases hqx : q x
        · rw [hqx] at HCy Hf
          go_upto_region 9 with (go_at_fn g; refine HCy.out.mono ?_; rintro e w2 ⟨rfl, hb2⟩)
          have hown2 := hown1.below hb2
          have hkp2 := hkp1.trans (Kp.of_below hb2)
          have hz2 := hb2.size
          have hsac2 : SA w2 (some ⟨gs, 0, none⟩) cur := by obtain ⟨a', c', he, hh, _⟩ := hown2.sa; simp only [Value.slice.injEq] at he; rw [he.1]; exact hh
          obtain ⟨mb, moff, ha', d0⟩ := hsac2.str hic
          cases ha'
          rw [Nat.zero_add] at d0
          obtain ⟨cr, hbxo⟩ := hown2.box
          have hfr0 := hbxo.frozen i
          have hput3 := hown2.put i 0 x (.string x) hic (by decide) rfl
          rw [show i * Cel.k ByteArray + 0 = i by show i * 1 + 0 = i; omega] at hput3
          have hkp3 := hkp2.setCell (p := ⟨gs, i, none⟩) (.inl rfl) (.string x)
          have Hti : Hid ((cur.set i x).take (i + 1) = (l.take (j + 1)).filter (fun x => !q x)) := by
            show _ = _
            rw [take_set_succS _ _ _ hic, hti.out, Hf.out]; simp
          have Hdj2 : Hid ((cur.set i x).drop (j + 1) = l.drop (j + 1)) := by
            show _ = _
            rw [drop_set_ltS _ _ _ _ (by omega)]; exact Hdj.out
          have hcl3 : (cur.set i x).length = l.length := by rw [List.length_set]; exact hcl
          have hgw3 : gs < (w2.setCell ⟨gs, i, none⟩ (.string x)).heap.size := by simp; omega
          generalize cur.set i x = cur3 at *
          generalize cur[i] = old at *
          clear hown2 hkp2 hsac2 hbxo hti hcl hown1 hkp1
          go_wp2_with fail
          go_roundg (l.length - (j + 1))
          case measure => omega
          case rel => exact ⟨i + 1, j + 1, cur3, by go_num, by go_num, by omega, by omega, Nat.le_refl _, hcl3, Hti, Hdj2, hput3, hkp3, hgw3⟩
        · rw [hqx] at HCy Hf
          go_wp2_with (go_at_fn g; refine HCy.out.mono ?_; rintro e w2 ⟨rfl, hb2⟩)
          go_roundg (l.length - (j + 1))
          case measure => omega
          case rel => exact ⟨i, j + 1, cur, rfl, by go_num, by omega, by omega, Nat.le_refl _, hcl, by show _ = _; rw [hti.out, Hf.out]; simp, Hdj, hown1.below hb2, hkp1.trans (Kp.of_below hb2), by have := hb2.size; omega⟩
      · obtain rfl : j = l.length := by omega
        rw [List.take_length] at hti
        have hil : i < cur.length := by omega
        have hsome : ∀ t, t < cur.length → (wr.cell? ⟨gs, t, none⟩).isSome = true := fun t ht => by
          obtain ⟨mb, moff, ha', d0⟩ := hsac.str (i := t) ht
          cases ha'
          rw [Nat.zero_add] at d0
          rw [d0]; rfl
        obtain ⟨cr, hbxo⟩ := hown.box
        obtain ⟨vs, hvl, hclr⟩ := run_clear_strs wr gs i (l.length - i) (cap - i) (by omega) (fun t ht => hsome _ (by omega)) (fun t ht => hbxo.frozen _)
        have hSA : SA (wr.setCells gs i vs) (some ⟨gs, 0, none⟩) (l.filter (fun x => !q x)) := by
          rw [← hti.out]
          refine .inr ⟨gs, 0, rfl, fun t jj x hx hj' => ?_⟩
          rw [List.getElem?_take] at hx
          have hti' : t < i := by
            by_cases h : t < i
            · exact h
            · rw [if_neg h] at hx; cases hx
          rw [if_pos hti'] at hx
          have hjj : jj < 1 := hj'
          rw [World.cell?_setCells_out gs vs i wr _ (fun _ _ => .inl (by show 0 + (t * 1 + jj) < i; omega))]
          rcases hsac with h | ⟨b', off', he, hh⟩
          · rw [h] at hil; simp at hil
          · cases he; exact hh t jj x hx hj'
        have hKP : Kp (fun k => (Value.slice (some ⟨gs, 0, none⟩) l.length cap).ownBlock = some k) w (wr.setCells gs i vs) := by
          have : ∀ (vs : List Value) (o : Nat) (W : World), Kp (fun k => (Value.slice (some ⟨gs, 0, none⟩) l.length cap).ownBlock = some k) w W → Kp (fun k => (Value.slice (some ⟨gs, 0, none⟩) l.length cap).ownBlock = some k) w (W.setCells gs o vs) := by
            intro vs
            induction vs with
            | nil => intro o W h; exact h
            | cons v r ih => intro o W h; exact ih _ _ (h.setCell (p := ⟨gs, o, none⟩) (.inl rfl) v)
          exact this vs _ _ hkp
        have Hil : Hid ((l.filter (fun x => !q x)).length = i) := by
          show _ = _
          rw [← hti.out, List.length_take]; omega
        have hi1 : (0 : Int) ≤ (i : Int) := by omega
        have hi2 : (i : Int) < (l.length : Int) := by omega
        have HSA := Lib.hid hSA
        have HKP := Lib.hid hKP
        clear hlt hdj hgk hsome hbxo hsac hown hSA hKP hkp hil hti hcl
        go_wp2_with fail
        go_ret
        exact ⟨some ⟨gs, 0, none⟩, cap, by rw [Hil.out] <;> rfl, HSA.out, by have := List.length_filter_le (fun x => !q x) l; omega, HKP.out⟩
  · have hfl : l.filter (fun x => !q x) = l := by
      have := filter_take_allS (fun x => !q x) l l.length (fun j hj hl' => by rw [hfirst j (by omega) hl']; rfl)
      rwa [List.take_length] at this
    rw [if_neg hk] at HI
    rw [hfl]
    clear hc hq hfirst hfl hk hown
    have hsaH := Lib.hid (fun W (h : Below w.heap.size w W) => hsa.below h)
    clear hsa
    go_enter Tryz.func134, Tryz.ntmps134
    go_wp2_with fail
    refine HI.out.mono ?_
    rintro e w1 ⟨rfl, hb1⟩
    go_wp2_with fail
    go_ret
    exact ⟨a, cap, rfl, hsaH.out _ hb1, hcap, Kp.of_below hb1⟩
end Go.Proofs.YtlpknpjfmacemaaGreatDoor
