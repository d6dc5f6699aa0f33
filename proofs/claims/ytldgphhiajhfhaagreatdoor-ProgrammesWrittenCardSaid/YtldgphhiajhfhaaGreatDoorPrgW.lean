/- slices.IndexFunc and slices.DeleteFunc of strings and of sessions: what is left is the call's own. Written by gen/src/delg.py. -/
import Derived.Test.YtldgphhiajhfhaaGreatDoorSortW
import Derived.Test.YtldgphhiajhfhaaGreatDoorGridQ
import Derived.Lib.SliceRun
import Derived.Test.YtldgphhiajhfhaaGreatDoorSesSort
import Derived.Test.YtldgphhiajhfhaaGreatDoorStrs
import Derived.Shelf.SlicesE.Clone
import Derived.OwnWalk
import Derived.Test.YtldgphhiajhfhaaGreatDoorReg
import Derived.Test.YtldgphhiajhfhaaGreatDoorRegF
import Derived.Shelf.Spec.SlicesInsert
import Derived.Lib.Overlaps
import Derived.Lib.AppendZerosOnto
/-! slices.IndexFunc and slices.DeleteFunc of strings and of sessions: what is left is the call's own. Written by gen/src/delg.py. -/
namespace Go.Proofs.YtldgphhiajhfhaaGreatDoor
open Go.RowKit Go.Sort
set_option linter.unusedVariables false
set_option linter.unusedSimpArgs false

/-- clear of a slice of strings. -/
theorem run_clear_strQ (w : World) (b o n c : Nat) (hn : 0 < n) (hc : ∀ j, j < n → (w.cell? ⟨b, o + j, none⟩).isSome = true) (hf : ∀ j, j < n → w.frozen? ⟨b, o + j, none⟩ = false) :
  ∃ vs : List Value, vs.length = n ∧ ∀ ty, (Builtin.clear_ #[57] ty #[.slice (some ⟨b, o, none⟩) n c]).run Tryz.prog w = .ok (.tuple #[]) (w.setCells b o vs) := by
 have hlen : (Builtin.zeroCells #[.string ⟨#[]⟩] n).toList.length = n := by simp [Builtin.zeroCells]
 have hone : ∀ v ∈ (Builtin.zeroCells #[.string ⟨#[]⟩] n).toList, v.oneCell' = true := by
  intro v hv
  simp only [Builtin.zeroCells, Array.toList_map, List.mem_map] at hv
  obtain ⟨i, _, rfl⟩ := hv
  have h3 : i % 1 = 0 := Nat.mod_one i
  show (#[Value.string ⟨#[]⟩][i % 1]!).oneCell' = true
  rw [h3]; rfl
 generalize hz : (Builtin.zeroCells #[.string ⟨#[]⟩] n).toList = vs at *
 have hst := run_storeCells_cells (P := Tryz.prog) b o vs 0 w (by rw [hlen]; simpa using hc) (by rw [hlen]; simpa using hf) hone
 simp only [Nat.add_zero] at hst
 obtain ⟨m, rfl⟩ : ∃ m, n = m + 1 := ⟨n - 1, by omega⟩
 refine ⟨vs, hlen, fun ty => ?_⟩
 have hv : (zeroValue 9).run Tryz.prog w = .ok (.string ⟨#[]⟩) w := Tryz.zeroValue9 w
 simp [Builtin.clear_, run_underlying Tryz.underlying57, hv, Value.cells, hz, hst]

set_option maxHeartbeats 1000000 in
/-- The first mark of which a function says true, or -1. -/
theorem idxStrQ_any (l : List ByteArray) (a : Option Addr) (cap g : Nat) (lb : Array Value) (q : ByteArray → Bool) (k0 : Nat) (W : World) (hs : SA W a l) (hl : l.length ≤ 1000000) (eg : ∀ args w, (callFunc g args).run Tryz.prog w = .ok (.enter g args) w)
  (hc : ∀ W' x, x ∈ l → Below W.heap.size W W' → Calls Tryz.prog g (#[.string x] ++ lb) W' (Gives (.bool (q x)) W')) (hk0 : k0 ≤ l.length) (hq : ∀ h : k0 < l.length, q l[k0] = true) (hfirst : ∀ j (hj : j < k0), q (l[j]'(by omega)) = false) :
  Calls Tryz.prog 151 #[.slice a l.length cap, .func (.func g) #[] lb] W (Gives (.int .i64 (if k0 < l.length then (k0 : Int) else -1)) W) := by
 have HC := Lib.hid hc
 have HQ := Lib.hid hq
 have HF := Lib.hid hfirst
 have HR1 : Hid (k0 < l.length → (if k0 < l.length then (k0 : Int) else -1) = k0) := fun h => by rw [if_pos h]
 have HR2 : Hid (¬ k0 < l.length → (if k0 < l.length then (k0 : Int) else -1) = -1) := fun h => by rw [if_neg h]
 generalize (if k0 < l.length then (k0 : Int) else -1) = res at *
 clear hc hq hfirst
 go_enter Tryz.func151, Tryz.ntmps151
 go_wp2_with fail
 go_loopg [8] l.length (fun gk i wr => ∃ k : Nat, i = .int .i64 k ∧ k ≤ k0 ∧ Hid (gk = l.length - k) ∧ Below W.heap.size W wr)
 case atStart => exact ⟨0, rfl, by omega, rfl, Below.refl _ _⟩
 case round =>
  obtain ⟨k, rfl, hk, hgk, hb⟩ := hrel
  by_cases hlt : k < l.length
  ·
   obtain ⟨b, off, ha, c0⟩ := (hs.below hb).str hlt
   have HCx := Lib.hid (HC.out wr l[k] (List.getElem_mem hlt) hb)
   rw [ha]
   by_cases hkk : k = k0
   ·
    subst hkk
    rw [HQ.out hlt] at HCx
    have HR := Lib.hid (HR1.out hlt)
    generalize l[k] = x at *
    (try simp only at c0 HCx)
    go_wp2_with (go_at_fn g; refine HCx.out.mono ?_; rintro e w1 ⟨rfl, hb1⟩)
    go_ret
    exact ⟨by rw [HR.out] <;> rfl, below_next hb hb1⟩
   ·
    rw [HF.out k (by omega)] at HCx
    generalize l[k] = x at *
    (try simp only at c0 HCx)
    go_wp2_with (go_at_fn g; refine HCx.out.mono ?_; rintro e w1 ⟨rfl, hb1⟩)
    rw [← ha]
    go_roundg (l.length - (k + 1))
    case measure => have := hgk.out; omega
    case rel => exact ⟨k + 1, by go_num, by omega, rfl, below_next hb hb1⟩
  ·
   have HR := Lib.hid (HR2.out (by omega))
   go_wp2_with fail
   go_ret
   exact ⟨by rw [HR.out] <;> rfl, hb⟩

/-- A first mark of which a function says true, or the length. -/
theorem first_hitSQ (q : ByteArray → Bool) : ∀ l : List ByteArray, ∃ k0, k0 ≤ l.length ∧ (∀ h : k0 < l.length, q l[k0] = true) ∧ ∀ j (hj : j < k0) (hl : j < l.length), q l[j] = false
 | [] => ⟨0, Nat.le_refl _, fun h => absurd h (Nat.lt_irrefl _), fun j hj => absurd hj (Nat.not_lt_zero _)⟩
 | x :: r => by
  cases hx : q x
  ·
   obtain ⟨k, h1, h2, h3⟩ := first_hitSQ q r
   refine ⟨k + 1, by simpa using h1, fun h => by simpa using h2 (by simpa using h), fun j hj hl => ?_⟩
   cases j with
   | zero => simpa using hx
   | succ j => simpa using h3 j (by omega) (by simpa using hl)
  ·
   exact ⟨0, Nat.zero_le _, fun _ => by simpa using hx, fun j hj => absurd hj (Nat.not_lt_zero _)⟩
theorem filter_take_allSQ (q : ByteArray → Bool) (l : List ByteArray) (k : Nat) (h : ∀ j (hj : j < k) (hl : j < l.length), q l[j] = true) : (l.take k).filter q = l.take k := by
 rw [List.filter_eq_self]
 intro x hx
 obtain ⟨j, hj, rfl⟩ := List.mem_iff_getElem.1 hx
 rw [List.length_take] at hj
 rw [List.getElem_take]
 exact h j (by omega) (by omega)
theorem take_set_succSQ (s : List ByteArray) (i : Nat) (x : ByteArray) (h : i < s.length) : (s.set i x).take (i + 1) = s.take i ++ [x] := by
 rw [List.take_succ_eq_append_getElem (by rw [List.length_set]; exact h), List.getElem_set_self]
 congr 1
 apply List.ext_getElem?
 intro k
 rw [List.getElem?_take, List.getElem?_take, List.getElem?_set]
 split
 ·
  rw [if_neg (by omega)]
 ·
  rfl
theorem drop_set_ltSQ (s : List ByteArray) (i j : Nat) (x : ByteArray) (h : i < j) : (s.set i x).drop j = s.drop j := by
 apply List.ext_getElem?
 intro k
 rw [List.getElem?_drop, List.getElem?_drop, List.getElem?_set, if_neg (by omega)]
set_option maxRecDepth 100000 in
set_option maxHeartbeats 4000000 in
/-- The marks of which a function says false are left. -/
theorem deleteStrQ_any (base : Nat) (l : List ByteArray) (v : Value) (g : Nat) (lb : Array Value) (q : ByteArray → Bool) (w : World) (hown : Own base 9 w v l) (hl : l.length ≤ 1000000) (eg : ∀ args w, (callFunc g args).run Tryz.prog w = .ok (.enter g args) w)
  (hc : ∀ W' x, x ∈ l → Kp (fun k => v.ownBlock = some k) w W' → Calls Tryz.prog g (#[.string x] ++ lb) W' (Gives (.bool (q x)) W')) :
  Calls Tryz.prog 113 #[v, .func (.func g) #[] lb] w (fun e w' => ∃ v', e = .returned v' ∧ Own base 9 w' v' (l.filter (fun x => !q x)) ∧ (∀ j, v'.ownBlock = some j → v.ownBlock = some j) ∧ Kp (fun k => v.ownBlock = some k) w w') := by
 obtain ⟨a, cap, rfl, hsa, hf, hcap⟩ := hown.form
 obtain ⟨k0, hk0, hq, hfirst⟩ := first_hitSQ q l
 have HC := Lib.hid hc
 have HI := Lib.hid (idxStrQ_any l a cap g lb q k0 w hsa hl eg (fun W' x hx hb => hc W' x hx (Kp.of_below hb)) hk0 hq (fun j hj => hfirst j hj (by omega)))
 by_cases hk : k0 < l.length
 ·
  rw [if_pos hk] at HI
  rcases hf with rfl | ⟨gs, rfl, hg1, hg2⟩
  ·
   obtain ⟨b, off, ha, _⟩ := hsa.str hk
   cases ha
  have hne : ((k0 : Int) == -1) = false := beq_eq_false_iff_ne.2 (by omega)
  have hst0 : Hid (l.take k0 = (l.take (k0 + 1)).filter (fun x => !q x)) := by
   show _ = _
   rw [List.take_succ_eq_append_getElem hk, List.filter_append, filter_take_allSQ _ _ _ (fun j hj hl' => by rw [hfirst j hj hl']; rfl)]
   simp [hq hk]
  have Hlt := Lib.hid hk
  clear hc hsa hq hfirst hk
  go_enter Tryz.func113, Tryz.ntmps113
  go_wp2_with fail
  refine HI.out.mono ?_
  rintro e w1 ⟨rfl, hb1⟩
  have hown1 := hown.below hb1
  have hk1 : Kp (fun k => (Value.slice (some ⟨gs, 0, none⟩) l.length cap).ownBlock = some k) w w1 := Kp.of_below hb1
  have hklt := Hlt.out
  have hg21 : gs < w1.heap.size := by have := hb1.size; omega
  clear hown HI hb1
  go_wp2_with fail
  go_loopg [5, 6, 7] l.length (fun gk iv jv _ wr => ∃ (i j : Nat) (cur : List ByteArray), iv = .int .i64 i ∧ jv = .int .i64 j ∧ i < j ∧ j ≤ l.length ∧ l.length - j ≤ gk ∧ cur.length = l.length ∧ Hid (cur.take i = (l.take j).filter (fun x => !q x)) ∧ Hid (cur.drop j = l.drop j) ∧ Own base 9 wr (.slice (some ⟨gs, 0, none⟩) l.length cap) cur ∧ Kp (fun k => (Value.slice (some ⟨gs, 0, none⟩) l.length cap).ownBlock = some k) w wr ∧ gs < wr.heap.size)
  case atStart => exact ⟨k0, k0 + 1, l, rfl, by go_num, by omega, by omega, by omega, rfl, hst0, rfl, hown1, hk1, hg21⟩
  case round =>
   clear hown1 hk1 hst0
   obtain ⟨i, j, cur, rfl, rfl, hij, hj, hgk, hcl, hti, hdj, hown, hkp, hgw⟩ := hrel
   have hsac : SA wr (some ⟨gs, 0, none⟩) cur := by obtain ⟨a', c', he, hh, _⟩ := hown.sa; simp only [Value.slice.injEq] at he; rw [he.1]; exact hh
   by_cases hlt : j < l.length
   ·
    have hjc : j < cur.length := by omega
    have hic : i < cur.length := by omega
    have hel : cur[j] = l[j] := by
     have h1 := congrArg (fun z => z[0]?) hdj.out
     simp only [List.getElem?_drop, Nat.add_zero] at h1
     rw [List.getElem?_eq_getElem hjc, List.getElem?_eq_getElem hlt] at h1
     exact Option.some.inj h1
    obtain ⟨mb, moff, ha', c0⟩ := hsac.str hjc
    cases ha'
    rw [Nat.zero_add] at c0
    rw [hel] at c0
    have Hf : Hid ((l.take (j + 1)).filter (fun x => !q x) = (l.take j).filter (fun x => !q x) ++ if q l[j] then [] else [l[j]]) := by
     show _ = _
     rw [List.take_succ_eq_append_getElem hlt, List.filter_append]
     cases hq0 : q l[j] <;> simp [hq0]
    have HCx := fun W' hW => HC.out W' l[j] (List.getElem_mem hlt) hW
    have Hdj : Hid (cur.drop (j + 1) = l.drop (j + 1)) := by
     show _ = _
     have h1 := congrArg (fun z => z.drop 1) hdj.out
     simpa [List.drop_drop, Nat.add_comm] using h1
    generalize l[j] = x at *
    (try simp only at c0 HCx)
    have HCy := Lib.hid (HCx _ hkp)
    have hown1 := hown
    have hkp1 := hkp
    have hj1 : (0 : Int) ≤ (j : Int) := by omega
    have hj2 : (j : Int) < (l.length : Int) := by omega
    have hi1 : (0 : Int) ≤ (i : Int) := by omega
    have hi2 : (i : Int) < (l.length : Int) := by omega
    clear HCx hel hown hkp hsac hdj
    cases hqx : q x
    ·
     rw [hqx] at HCy Hf
     go_upto_region 9 with (go_at_fn g; refine HCy.out.mono ?_; rintro e w2 ⟨rfl, hb2⟩)
     have hown2 := hown1.below hb2
     have hkp2 := hkp1.trans (Kp.of_below hb2)
     have hz2 := hb2.size
     have hsac2 : SA w2 (some ⟨gs, 0, none⟩) cur := by obtain ⟨a', c', he, hh, _⟩ := hown2.sa; simp only [Value.slice.injEq] at he; rw [he.1]; exact hh
     obtain ⟨mb, moff, ha', d0⟩ := hsac2.str hic
     cases ha'
     rw [Nat.zero_add] at d0
     obtain ⟨cr, hbxo⟩ := hown2.box
     have hfr0 := hbxo.frozen i
     have hput3 := hown2.put i 0 x (.string x) hic (by decide) rfl
     rw [show i * Cel.k ByteArray + 0 = i by show i * 1 + 0 = i; omega] at hput3
     have hkp3 := hkp2.setCell (p := ⟨gs, i, none⟩) (.inl rfl) (.string x)
     have Hti : Hid ((cur.set i x).take (i + 1) = (l.take (j + 1)).filter (fun x => !q x)) := by
      show _ = _
      rw [take_set_succSQ _ _ _ hic, hti.out, Hf.out]; simp
     have Hdj2 : Hid ((cur.set i x).drop (j + 1) = l.drop (j + 1)) := by
      show _ = _
      rw [drop_set_ltSQ _ _ _ _ (by omega)]; exact Hdj.out
     have hcl3 : (cur.set i x).length = l.length := by rw [List.length_set]; exact hcl
     have hgw3 : gs < (w2.setCell ⟨gs, i, none⟩ (.string x)).heap.size := by simp; omega
     generalize cur.set i x = cur3 at *
     generalize cur[i] = old at *
     clear hown2 hkp2 hsac2 hbxo hti hcl hown1 hkp1
     go_wp2_with fail
     go_roundg (l.length - (j + 1))
     case measure => omega
     case rel => exact ⟨i + 1, j + 1, cur3, by go_num, by go_num, by omega, by omega, Nat.le_refl _, hcl3, Hti, Hdj2, hput3, hkp3, hgw3⟩
    ·
     rw [hqx] at HCy Hf
     go_wp2_with (go_at_fn g; refine HCy.out.mono ?_; rintro e w2 ⟨rfl, hb2⟩)
     go_roundg (l.length - (j + 1))
     case measure => omega
     case rel => exact ⟨i, j + 1, cur, rfl, by go_num, by omega, by omega, Nat.le_refl _, hcl, by show _ = _; rw [hti.out, Hf.out]; simp, Hdj, hown1.below hb2, hkp1.trans (Kp.of_below hb2), by have := hb2.size; omega⟩
   ·
    obtain rfl : j = l.length := by omega
    rw [List.take_length] at hti
    have hil : i < cur.length := by omega
    have hsome : ∀ t, t < cur.length → (wr.cell? ⟨gs, t, none⟩).isSome = true := fun t ht => by
     obtain ⟨mb, moff, ha', d0⟩ := hsac.str (i := t) ht
     cases ha'
     rw [Nat.zero_add] at d0
     rw [d0]; rfl
    obtain ⟨cr, hbxo⟩ := hown.box
    obtain ⟨vs, hvl, hclr⟩ := run_clear_strQ wr gs i (l.length - i) (cap - i) (by omega) (fun t ht => hsome _ (by omega)) (fun t ht => hbxo.frozen _)
    have hSA : Own base 9 (wr.setCells gs i vs) (.slice (some ⟨gs, 0, none⟩) (l.filter (fun x => !q x)).length cap) (l.filter (fun x => !q x)) := by
     rw [← hti.out]
     refine Own.turnedN hown (fun c0 h0 => h0.sets vs i) (by rw [List.length_take]; omega) (fun t jj x hx hj' => ?_)
     rw [List.getElem?_take] at hx
     have hti' : t < i := by
      by_cases h : t < i
      ·
       exact h
      ·
       rw [if_neg h] at hx; cases hx
     rw [if_pos hti'] at hx
     have hjj : jj < 1 := hj'
     rw [World.cell?_setCells_out gs vs i wr _ (fun _ _ => .inl (by show 0 + (t * 1 + jj) < i; omega))]
     rcases hsac with h | ⟨b', off', he, hh⟩
     ·
      rw [h] at hil; simp at hil
     ·
      cases he; exact hh t jj x hx hj'
    have hKP : Kp (fun k => (Value.slice (some ⟨gs, 0, none⟩) l.length cap).ownBlock = some k) w (wr.setCells gs i vs) := by
     have : ∀ (vs : List Value) (o : Nat) (W : World), Kp (fun k => (Value.slice (some ⟨gs, 0, none⟩) l.length cap).ownBlock = some k) w W → Kp (fun k => (Value.slice (some ⟨gs, 0, none⟩) l.length cap).ownBlock = some k) w (W.setCells gs o vs) := by
      intro vs
      induction vs with
      | nil => intro o W h; exact h
      | cons v r ih => intro o W h; exact ih _ _ (h.setCell (p := ⟨gs, o, none⟩) (.inl rfl) v)
     exact this vs _ _ hkp
    have Hil : Hid ((l.filter (fun x => !q x)).length = i) := by
     show _ = _
     rw [← hti.out, List.length_take]; omega
    have hi1 : (0 : Int) ≤ (i : Int) := by omega
    have hi2 : (i : Int) < (l.length : Int) := by omega
    have HSA := Lib.hid hSA
    have HKP := Lib.hid hKP
    clear hlt hdj hgk hsome hbxo hsac hown hSA hKP hkp hil hti hcl
    go_wp2_with fail
    go_ret
    exact ⟨.slice (some ⟨gs, 0, none⟩) (l.filter (fun x => !q x)).length cap, by rw [Hil.out] <;> rfl, HSA.out, fun j hj => hj, HKP.out⟩
 ·
  have hfl : l.filter (fun x => !q x) = l := by
   have := filter_take_allSQ (fun x => !q x) l l.length (fun j hj hl' => by rw [hfirst j (by omega) hl']; rfl)
   rwa [List.take_length] at this
  rw [if_neg hk] at HI
  rw [hfl]
  clear hc hq hfirst hfl hk hsa
  have hsaH := Lib.hid (fun W (h : Below w.heap.size w W) => hown.below h)
  clear hown
  go_enter Tryz.func113, Tryz.ntmps113
  go_wp2_with fail
  refine HI.out.mono ?_
  rintro e w1 ⟨rfl, hb1⟩
  go_wp2_with fail
  go_ret
  exact ⟨_, rfl, hsaH.out _ hb1, fun j hj => hj, Kp.of_below hb1⟩

/-- clear of a slice of marks. -/
theorem run_clear_ses (w : World) (b o n c : Nat) (hn : 0 < n) (hc : ∀ j, j < n * 3 → (w.cell? ⟨b, o + j, none⟩).isSome = true) (hf : ∀ j, j < n * 3 → w.frozen? ⟨b, o + j, none⟩ = false) :
  ∃ vs : List Value, vs.length = n * 3 ∧ ∀ ty, (Builtin.clear_ #[34] ty #[.slice (some ⟨b, o, none⟩) n c]).run Tryz.prog w = .ok (.tuple #[]) (w.setCells b o vs) := by
 have hlen : (Builtin.zeroCells #[.string ⟨#[]⟩, .string ⟨#[]⟩, .slice none 0 0] n).toList.length = n * 3 := by simp [Builtin.zeroCells]
 have hone : ∀ v ∈ (Builtin.zeroCells #[.string ⟨#[]⟩, .string ⟨#[]⟩, .slice none 0 0] n).toList, v.oneCell' = true := by
  intro v hv
  simp only [Builtin.zeroCells, Array.toList_map, List.mem_map] at hv
  obtain ⟨i, _, rfl⟩ := hv
  have h3 : i % 3 < 3 := Nat.mod_lt _ (by decide)
  show (#[Value.string ⟨#[]⟩, .string ⟨#[]⟩, .slice none 0 0][i % 3]!).oneCell' = true
  generalize i % 3 = r at *
  rcases (show r = 0 ∨ r = 1 ∨ r = 2 by omega) with rfl | rfl | rfl <;> rfl
 generalize hz : (Builtin.zeroCells #[.string ⟨#[]⟩, .string ⟨#[]⟩, .slice none 0 0] n).toList = vs at *
 have hst := run_storeCells_cells (P := Tryz.prog) b o vs 0 w (by rw [hlen]; simpa using hc) (by rw [hlen]; simpa using hf) hone
 simp only [Nat.add_zero] at hst
 obtain ⟨m, rfl⟩ : ∃ m, n = m + 1 := ⟨n - 1, by omega⟩
 refine ⟨vs, hlen, fun ty => ?_⟩
 have hv : (zeroValue 67).run Tryz.prog w = .ok (.agg #[.string ⟨#[]⟩, .string ⟨#[]⟩, .slice none 0 0]) w := Tryz.zeroValue67 w
 simp [Builtin.clear_, run_underlying Tryz.underlying34, hv, Value.cells, hz, hst]

set_option maxHeartbeats 1000000 in
/-- The first mark of which a function says true, or -1. -/
theorem idxSes_any (l : List Ses) (a : Option Addr) (cap g : Nat) (lb : Array Value) (q : Ses → Bool) (k0 : Nat) (W : World) (hs : SA W a l) (hl : l.length ≤ 1000000) (eg : ∀ args w, (callFunc g args).run Tryz.prog w = .ok (.enter g args) w)
  (hc : ∀ W' x, x ∈ l → Below W.heap.size W W' → Calls Tryz.prog g (#[.agg #[.string x.slot, .string x.room, .slice x.a1 x.papers.length x.c1]] ++ lb) W' (Gives (.bool (q x)) W')) (hk0 : k0 ≤ l.length) (hq : ∀ h : k0 < l.length, q l[k0] = true) (hfirst : ∀ j (hj : j < k0), q (l[j]'(by omega)) = false) :
  Calls Tryz.prog 117 #[.slice a l.length cap, .func (.func g) #[] lb] W (Gives (.int .i64 (if k0 < l.length then (k0 : Int) else -1)) W) := by
 have HC := Lib.hid hc
 have HQ := Lib.hid hq
 have HF := Lib.hid hfirst
 have HR1 : Hid (k0 < l.length → (if k0 < l.length then (k0 : Int) else -1) = k0) := fun h => by rw [if_pos h]
 have HR2 : Hid (¬ k0 < l.length → (if k0 < l.length then (k0 : Int) else -1) = -1) := fun h => by rw [if_neg h]
 generalize (if k0 < l.length then (k0 : Int) else -1) = res at *
 clear hc hq hfirst
 go_enter Tryz.func117, Tryz.ntmps117
 go_wp2_with fail
 go_loopg [8] l.length (fun gk i wr => ∃ k : Nat, i = .int .i64 k ∧ k ≤ k0 ∧ Hid (gk = l.length - k) ∧ Below W.heap.size W wr)
 case atStart => exact ⟨0, rfl, by omega, rfl, Below.refl _ _⟩
 case round =>
  obtain ⟨k, rfl, hk, hgk, hb⟩ := hrel
  by_cases hlt : k < l.length
  ·
   obtain ⟨b, off, ha, c0, c1, c2⟩ := (hs.below hb).sesC hlt
   have HCx := Lib.hid (HC.out wr l[k] (List.getElem_mem hlt) hb)
   rw [ha]
   by_cases hkk : k = k0
   ·
    subst hkk
    rw [HQ.out hlt] at HCx
    have HR := Lib.hid (HR1.out hlt)
    generalize l[k] = x at *
    obtain ⟨x1, x2, x3, x4, x5⟩ := x
    simp only at c0 c1 c2 HCx
    go_wp2_with (go_at_fn g; refine HCx.out.mono ?_; rintro e w1 ⟨rfl, hb1⟩)
    go_ret
    exact ⟨by rw [HR.out] <;> rfl, below_next hb hb1⟩
   ·
    rw [HF.out k (by omega)] at HCx
    generalize l[k] = x at *
    obtain ⟨x1, x2, x3, x4, x5⟩ := x
    simp only at c0 c1 c2 HCx
    go_wp2_with (go_at_fn g; refine HCx.out.mono ?_; rintro e w1 ⟨rfl, hb1⟩)
    rw [← ha]
    go_roundg (l.length - (k + 1))
    case measure => have := hgk.out; omega
    case rel => exact ⟨k + 1, by go_num, by omega, rfl, below_next hb hb1⟩
  ·
   have HR := Lib.hid (HR2.out (by omega))
   go_wp2_with fail
   go_ret
   exact ⟨by rw [HR.out] <;> rfl, hb⟩

/-- A first mark of which a function says true, or the length. -/
theorem first_hitE (q : Ses → Bool) : ∀ l : List Ses, ∃ k0, k0 ≤ l.length ∧ (∀ h : k0 < l.length, q l[k0] = true) ∧ ∀ j (hj : j < k0) (hl : j < l.length), q l[j] = false
 | [] => ⟨0, Nat.le_refl _, fun h => absurd h (Nat.lt_irrefl _), fun j hj => absurd hj (Nat.not_lt_zero _)⟩
 | x :: r => by
  cases hx : q x
  ·
   obtain ⟨k, h1, h2, h3⟩ := first_hitE q r
   refine ⟨k + 1, by simpa using h1, fun h => by simpa using h2 (by simpa using h), fun j hj hl => ?_⟩
   cases j with
   | zero => simpa using hx
   | succ j => simpa using h3 j (by omega) (by simpa using hl)
  ·
   exact ⟨0, Nat.zero_le _, fun _ => by simpa using hx, fun j hj => absurd hj (Nat.not_lt_zero _)⟩
theorem filter_take_allE (q : Ses → Bool) (l : List Ses) (k : Nat) (h : ∀ j (hj : j < k) (hl : j < l.length), q l[j] = true) : (l.take k).filter q = l.take k := by
 rw [List.filter_eq_self]
 intro x hx
 obtain ⟨j, hj, rfl⟩ := List.mem_iff_getElem.1 hx
 rw [List.length_take] at hj
 rw [List.getElem_take]
 exact h j (by omega) (by omega)
theorem take_set_succE (s : List Ses) (i : Nat) (x : Ses) (h : i < s.length) : (s.set i x).take (i + 1) = s.take i ++ [x] := by
 rw [List.take_succ_eq_append_getElem (by rw [List.length_set]; exact h), List.getElem_set_self]
 congr 1
 apply List.ext_getElem?
 intro k
 rw [List.getElem?_take, List.getElem?_take, List.getElem?_set]
 split
 ·
  rw [if_neg (by omega)]
 ·
  rfl
theorem drop_set_ltE (s : List Ses) (i j : Nat) (x : Ses) (h : i < j) : (s.set i x).drop j = s.drop j := by
 apply List.ext_getElem?
 intro k
 rw [List.getElem?_drop, List.getElem?_drop, List.getElem?_set, if_neg (by omega)]
set_option maxRecDepth 100000 in
set_option maxHeartbeats 4000000 in
/-- The marks of which a function says false are left. -/
theorem deleteSes_any (base : Nat) (l : List Ses) (v : Value) (g : Nat) (lb : Array Value) (q : Ses → Bool) (w : World) (hown : Own base 67 w v l) (hl : l.length ≤ 1000000) (eg : ∀ args w, (callFunc g args).run Tryz.prog w = .ok (.enter g args) w)
  (hc : ∀ W' x, x ∈ l → Kp (fun k => v.ownBlock = some k) w W' → Calls Tryz.prog g (#[.agg #[.string x.slot, .string x.room, .slice x.a1 x.papers.length x.c1]] ++ lb) W' (Gives (.bool (q x)) W')) :
  Calls Tryz.prog 153 #[v, .func (.func g) #[] lb] w (fun e w' => ∃ v', e = .returned v' ∧ Own base 67 w' v' (l.filter (fun x => !q x)) ∧ (∀ j, v'.ownBlock = some j → v.ownBlock = some j) ∧ Kp (fun k => v.ownBlock = some k) w w') := by
 obtain ⟨a, cap, rfl, hsa, hf, hcap⟩ := hown.form
 obtain ⟨k0, hk0, hq, hfirst⟩ := first_hitE q l
 have HC := Lib.hid hc
 have HI := Lib.hid (idxSes_any l a cap g lb q k0 w hsa hl eg (fun W' x hx hb => hc W' x hx (Kp.of_below hb)) hk0 hq (fun j hj => hfirst j hj (by omega)))
 by_cases hk : k0 < l.length
 ·
  rw [if_pos hk] at HI
  rcases hf with rfl | ⟨gs, rfl, hg1, hg2⟩
  ·
   obtain ⟨b, off, ha, _⟩ := hsa.sesC hk
   cases ha
  have hne : ((k0 : Int) == -1) = false := beq_eq_false_iff_ne.2 (by omega)
  have hst0 : Hid (l.take k0 = (l.take (k0 + 1)).filter (fun x => !q x)) := by
   show _ = _
   rw [List.take_succ_eq_append_getElem hk, List.filter_append, filter_take_allE _ _ _ (fun j hj hl' => by rw [hfirst j hj hl']; rfl)]
   simp [hq hk]
  have Hlt := Lib.hid hk
  clear hc hsa hq hfirst hk
  go_enter Tryz.func153, Tryz.ntmps153
  go_wp2_with fail
  refine HI.out.mono ?_
  rintro e w1 ⟨rfl, hb1⟩
  have hown1 := hown.below hb1
  have hk1 : Kp (fun k => (Value.slice (some ⟨gs, 0, none⟩) l.length cap).ownBlock = some k) w w1 := Kp.of_below hb1
  have hklt := Hlt.out
  have hg21 : gs < w1.heap.size := by have := hb1.size; omega
  clear hown HI hb1
  go_wp2_with fail
  go_loopg [5, 6, 7] l.length (fun gk iv jv _ wr => ∃ (i j : Nat) (cur : List Ses), iv = .int .i64 i ∧ jv = .int .i64 j ∧ i < j ∧ j ≤ l.length ∧ l.length - j ≤ gk ∧ cur.length = l.length ∧ Hid (cur.take i = (l.take j).filter (fun x => !q x)) ∧ Hid (cur.drop j = l.drop j) ∧ Own base 67 wr (.slice (some ⟨gs, 0, none⟩) l.length cap) cur ∧ Kp (fun k => (Value.slice (some ⟨gs, 0, none⟩) l.length cap).ownBlock = some k) w wr ∧ gs < wr.heap.size)
  case atStart => exact ⟨k0, k0 + 1, l, rfl, by go_num, by omega, by omega, by omega, rfl, hst0, rfl, hown1, hk1, hg21⟩
  case round =>
   clear hown1 hk1 hst0
   obtain ⟨i, j, cur, rfl, rfl, hij, hj, hgk, hcl, hti, hdj, hown, hkp, hgw⟩ := hrel
   have hsac : SA wr (some ⟨gs, 0, none⟩) cur := by obtain ⟨a', c', he, hh, _⟩ := hown.sa; simp only [Value.slice.injEq] at he; rw [he.1]; exact hh
   by_cases hlt : j < l.length
   ·
    have hjc : j < cur.length := by omega
    have hic : i < cur.length := by omega
    have hel : cur[j] = l[j] := by
     have h1 := congrArg (fun z => z[0]?) hdj.out
     simp only [List.getElem?_drop, Nat.add_zero] at h1
     rw [List.getElem?_eq_getElem hjc, List.getElem?_eq_getElem hlt] at h1
     exact Option.some.inj h1
    obtain ⟨mb, moff, ha', c0, c1, c2⟩ := hsac.sesC hjc
    cases ha'
    rw [Nat.zero_add] at c0 c1 c2
    rw [hel] at c0 c1 c2
    have Hf : Hid ((l.take (j + 1)).filter (fun x => !q x) = (l.take j).filter (fun x => !q x) ++ if q l[j] then [] else [l[j]]) := by
     show _ = _
     rw [List.take_succ_eq_append_getElem hlt, List.filter_append]
     cases hq0 : q l[j] <;> simp [hq0]
    have HCx := fun W' hW => HC.out W' l[j] (List.getElem_mem hlt) hW
    have Hdj : Hid (cur.drop (j + 1) = l.drop (j + 1)) := by
     show _ = _
     have h1 := congrArg (fun z => z.drop 1) hdj.out
     simpa [List.drop_drop, Nat.add_comm] using h1
    generalize l[j] = x at *
    obtain ⟨x1, x2, x3, x4, x5⟩ := x
    simp only at c0 c1 c2 HCx
    have HCy := Lib.hid (HCx _ (hkp.alloc (.cells #[.string x1, .string x2, .slice x4 x3.length x5] 67)))
    have hown1 := hown.alloc (.cells #[.string x1, .string x2, .slice x4 x3.length x5] 67)
    have hkp1 := hkp.alloc (.cells #[.string x1, .string x2, .slice x4 x3.length x5] 67)
    have hbx1 := Box.new wr 67 #[.string x1, .string x2, .slice x4 x3.length x5]
    have hj1 : (0 : Int) ≤ (j : Int) := by omega
    have hj2 : (j : Int) < (l.length : Int) := by omega
    have hi1 : (0 : Int) ≤ (i : Int) := by omega
    have hi2 : (i : Int) < (l.length : Int) := by omega
    clear HCx hel hown hkp hsac hdj
    cases hqx : q (⟨x1, x2, x3, x4, x5⟩ : Ses)
    ·
     rw [hqx] at HCy Hf
     go_upto_region 9 with (go_at_fn g; refine HCy.out.mono ?_; rintro e w2 ⟨rfl, hb2⟩)
     have hown2 := hown1.below hb2
     have hkp2 := hkp1.trans (Kp.of_below hb2)
     have hbx2 := hbx1.below hb2
     have hz2 := hb2.size
     simp at hz2
     have hsac2 : SA w2 (some ⟨gs, 0, none⟩) cur := by obtain ⟨a', c', he, hh, _⟩ := hown2.sa; simp only [Value.slice.injEq] at he; rw [he.1]; exact hh
     obtain ⟨mb, moff, ha', d0, d1, d2⟩ := hsac2.sesC hic
     cases ha'
     rw [Nat.zero_add] at d0 d1 d2
     obtain ⟨cr, hbxo⟩ := hown2.box
     have hfr0 := hbxo.frozen (i * 3)
     have hfr1 := hbxo.frozen (i * 3 + 1)
     have hfr2 := hbxo.frozen (i * 3 + 2)
     have hput1 := hown2.put i 0 (⟨x1, cur[i].room, cur[i].papers, cur[i].a1, cur[i].c1⟩ : Ses) (.string x1) hic (by decide) rfl
     have hput2 := hput1.put i 1 (⟨x1, x2, cur[i].papers, cur[i].a1, cur[i].c1⟩ : Ses) (.string x2) (by rw [List.length_set]; exact hic) (by decide) (by rw [List.getElem_set_self]; rfl)
     have hput3 := hput2.put i 2 (⟨x1, x2, x3, x4, x5⟩ : Ses) (.slice x4 x3.length x5) (by rw [List.length_set, List.length_set]; exact hic) (by decide) (by rw [List.getElem_set_self]; rfl)
     rw [List.set_set, List.set_set, show i * Cel.k Ses + 0 = i * 3 from rfl, show i * Cel.k Ses + 1 = i * 3 + 1 from rfl, show i * Cel.k Ses + 2 = i * 3 + 2 from rfl] at hput3
     have hkp3 := ((hkp2.setCell (p := ⟨gs, i * 3, none⟩) (.inl rfl) (.string x1)).setCell (p := ⟨gs, i * 3 + 1, none⟩) (.inl rfl) (.string x2)).setCell (p := ⟨gs, i * 3 + 2, none⟩) (.inl rfl) (.slice x4 x3.length x5)
     have Hti : Hid ((cur.set i (⟨x1, x2, x3, x4, x5⟩ : Ses)).take (i + 1) = (l.take (j + 1)).filter (fun x => !q x)) := by
      show _ = _
      rw [take_set_succE _ _ _ hic, hti.out, Hf.out]; simp
     have Hdj2 : Hid ((cur.set i (⟨x1, x2, x3, x4, x5⟩ : Ses)).drop (j + 1) = l.drop (j + 1)) := by
      show _ = _
      rw [drop_set_ltE _ _ _ _ (by omega)]; exact Hdj.out
     have hcl3 : (cur.set i (⟨x1, x2, x3, x4, x5⟩ : Ses)).length = l.length := by rw [List.length_set]; exact hcl
     have hgw3 : gs < (((w2.setCell ⟨gs, i * 3, none⟩ (.string x1)).setCell ⟨gs, i * 3 + 1, none⟩ (.string x2)).setCell ⟨gs, i * 3 + 2, none⟩ (.slice x4 x3.length x5)).heap.size := by simp; omega
     generalize cur.set i (⟨x1, x2, x3, x4, x5⟩ : Ses) = cur3 at *
     generalize cur[i] = old at *
     have hne2 : wr.heap.size ≠ gs := by omega
     clear hput1 hput2 hown2 hkp2 hsac2 hbxo hti hcl hown1 hkp1 hbx1
     have hbx2_l := hbx2.lt; have hbx2_0 := hbx2.cell 0; have hbx2_1 := hbx2.cell 1; have hbx2_2 := hbx2.cell 2; simp at hbx2_0 hbx2_1 hbx2_2
     go_wp2_with fail
     go_roundg (l.length - (j + 1))
     case measure => omega
     case rel => exact ⟨i + 1, j + 1, cur3, by go_num, by go_num, by omega, by omega, Nat.le_refl _, hcl3, Hti, Hdj2, hput3, hkp3, hgw3⟩
    ·
     rw [hqx] at HCy Hf
     go_wp2_with (go_at_fn g; refine HCy.out.mono ?_; rintro e w2 ⟨rfl, hb2⟩)
     go_roundg (l.length - (j + 1))
     case measure => omega
     case rel => exact ⟨i, j + 1, cur, rfl, by go_num, by omega, by omega, Nat.le_refl _, hcl, by show _ = _; rw [hti.out, Hf.out]; simp, Hdj, hown1.below hb2, hkp1.trans (Kp.of_below hb2), by have := hb2.size; simp at this; omega⟩
   ·
    obtain rfl : j = l.length := by omega
    rw [List.take_length] at hti
    have hil : i < cur.length := by omega
    have hsome : ∀ t, t < cur.length * 3 → (wr.cell? ⟨gs, t, none⟩).isSome = true := fun t ht => by
     obtain ⟨mb, moff, ha', d0, d1, d2⟩ := hsac.sesC (i := t / 3) (by omega)
     cases ha'
     rw [Nat.zero_add] at d0 d1 d2
     rcases (show t % 3 = 0 ∨ t % 3 = 1 ∨ t % 3 = 2 by omega) with h | h | h
     ·
      rw [show t = t / 3 * 3 by omega, d0]; rfl
     ·
      rw [show t = t / 3 * 3 + 1 by omega, d1]; rfl
     ·
      rw [show t = t / 3 * 3 + 2 by omega, d2]; rfl
    obtain ⟨cr, hbxo⟩ := hown.box
    obtain ⟨vs, hvl, hclr⟩ := run_clear_ses wr gs (i * 3) (l.length - i) (cap - i) (by omega) (fun t ht => hsome _ (by omega)) (fun t ht => hbxo.frozen _)
    have hSA : Own base 67 (wr.setCells gs (i * 3) vs) (.slice (some ⟨gs, 0, none⟩) (l.filter (fun x => !q x)).length cap) (l.filter (fun x => !q x)) := by
     rw [← hti.out]
     refine Own.turnedN hown (fun c0 h0 => h0.sets vs (i * 3)) (by rw [List.length_take]; omega) (fun t jj x hx hj' => ?_)
     rw [List.getElem?_take] at hx
     have hti' : t < i := by
      by_cases h : t < i
      ·
       exact h
      ·
       rw [if_neg h] at hx; cases hx
     rw [if_pos hti'] at hx
     have hjj : jj < 3 := hj'
     rw [World.cell?_setCells_out gs vs (i * 3) wr _ (fun _ _ => .inl (by show 0 + (t * 3 + jj) < i * 3; omega))]
     rcases hsac with h | ⟨b', off', he, hh⟩
     ·
      rw [h] at hil; simp at hil
     ·
      cases he; exact hh t jj x hx hj'
    have hKP : Kp (fun k => (Value.slice (some ⟨gs, 0, none⟩) l.length cap).ownBlock = some k) w (wr.setCells gs (i * 3) vs) := by
     have : ∀ (vs : List Value) (o : Nat) (W : World), Kp (fun k => (Value.slice (some ⟨gs, 0, none⟩) l.length cap).ownBlock = some k) w W → Kp (fun k => (Value.slice (some ⟨gs, 0, none⟩) l.length cap).ownBlock = some k) w (W.setCells gs o vs) := by
      intro vs
      induction vs with
      | nil => intro o W h; exact h
      | cons v r ih => intro o W h; exact ih _ _ (h.setCell (p := ⟨gs, o, none⟩) (.inl rfl) v)
     exact this vs _ _ hkp
    have Hil : Hid ((l.filter (fun x => !q x)).length = i) := by
     show _ = _
     rw [← hti.out, List.length_take]; omega
    have hi1 : (0 : Int) ≤ (i : Int) := by omega
    have hi2 : (i : Int) < (l.length : Int) := by omega
    have HSA := Lib.hid hSA
    have HKP := Lib.hid hKP
    clear hlt hdj hgk hsome hbxo hsac hown hSA hKP hkp hil hti hcl
    go_wp2_with fail
    go_ret
    exact ⟨.slice (some ⟨gs, 0, none⟩) (l.filter (fun x => !q x)).length cap, by rw [Hil.out] <;> rfl, HSA.out, fun j hj => hj, HKP.out⟩
 ·
  have hfl : l.filter (fun x => !q x) = l := by
   have := filter_take_allE (fun x => !q x) l l.length (fun j hj hl' => by rw [hfirst j (by omega) hl']; rfl)
   rwa [List.take_length] at this
  rw [if_neg hk] at HI
  rw [hfl]
  clear hc hq hfirst hfl hk hsa hcap
  have hsaH := Lib.hid (fun W (h : Below w.heap.size w W) => hown.below h)
  clear hown
  go_enter Tryz.func153, Tryz.ntmps153
  go_wp2_with fail
  refine HI.out.mono ?_
  rintro e w1 ⟨rfl, hb1⟩
  go_wp2_with fail
  go_ret
  exact ⟨_, rfl, hsaH.out _ hb1, fun j hj => hj, Kp.of_below hb1⟩

end Go.Proofs.YtldgphhiajhfhaaGreatDoor

/-! A programme under way: sessions whose papers lie each in a block of their own. -/
namespace Go.Proofs.YtldgphhiajhfhaaGreatDoor
open Go.RowKit
set_option linter.unusedVariables false
set_option linter.unusedSimpArgs false

def cloneSesRen : Go.Shelf.Ren := ⟨fun | 41 => 159 | n => n, fun | 22 => 34 | 23 => 67 | 4 => 4 | n => n, fun | n => n⟩
theorem cloneSesLays : Go.Proofs.SlLaysE0.n41 Tryz.prog cloneSesRen := {
 mixed := by kernel_rfl
 f41 := ⟨Tryz.f159.name, by decide, Tryz.func159.trans (congrArg some (by kernel_rfl))⟩
 t4 := Tryz.underlying4
 a4 := Tryz.isAgg4
 z4 := Tryz.sizeOf4
 v4 := Tryz.zeroValue4
 t22 := Tryz.underlying34
 a22 := Tryz.isAgg34
 z22 := Tryz.sizeOf34
 v22 := Tryz.zeroValue34 }
theorem cloneSesInfo : (Tryz.prog.info? 67).map (fun i => (i.zero, i.size, i.bytes)) = some (some (.agg #[.string ⟨#[]⟩, .string ⟨#[]⟩, .slice none 0 0]), 3, 56) := by kernel_rfl
theorem cloneSes_any (l : List Ses) (a : Option Addr) (cap : Nat) (w : World) (hs : SA w a l) (hf : a = none ∨ ∃ b off, a = some ⟨b, off, none⟩) (hl : l.length ≤ 1000000) :
  Calls Tryz.prog 159 #[.slice a l.length cap] w (GivesOwn 67 l w) := by
 have hlen : (l.flatMap Cel.cells).length = l.length * 3 := by
  clear hs hl
  induction l with
  | nil => rfl
  | cons y r ih => rw [List.flatMap_cons, List.length_append, ih, Cel.len, List.length_cons]; show 3 + _ = _; omega
 have hone : ∀ u ∈ l.flatMap Cel.cells, u.oneCell' = true := fun u hu => by
  obtain ⟨y, _, hy⟩ := List.mem_flatMap.1 hu
  exact Cel.one y u hy
 rcases hf with rfl | ⟨b, off, rfl⟩
 ·
  have hl0 : l = [] := by
   rcases hs with h | ⟨b, off, h, _⟩
   ·
    exact h
   ·
    cases h
  subst hl0
  refine (AnyE.slices_Clone_nil cloneSesLays 0 cap w).mono ?_
  rintro e w' ⟨rfl, rfl⟩
  exact ⟨_, rfl, Own.nil _ _ _, Below.refl _ _⟩
 ·
  obtain ⟨i0, hi, hz0, hz1, hz2⟩ := info_parts cloneSesInfo
  refine (AnyE.slices_Clone cloneSesLays i0 (.agg #[.string ⟨#[]⟩, .string ⟨#[]⟩, .slice none 0 0]) 3 56 hi hz0 hz1 hz2 rfl (by omega) (fun w => Tryz.sizeOf67 w) b off l.length cap (l.flatMap Cel.cells) w hlen (by unfold maxLen; omega) (by omega) ?_ hone).mono ?_
  ·
   intro j u hu
   have hj : j < l.length * 3 := by rw [← hlen]; exact (List.getElem?_eq_some_iff.1 hu).1
   rcases hs with rfl | ⟨b', off', he, h⟩
   ·
    simp at hj
   ·
    cases he
    have hi1 : j / 3 < l.length := by omega
    have h1 := h (j / 3) (j % 3) _ (List.getElem?_eq_getElem hi1) (by show _ < 3; omega)
    have h2 := flat_get l (j / 3) (j % 3) _ (List.getElem?_eq_getElem hi1) (by show _ < 3; omega)
    have e : j / 3 * 3 + j % 3 = j := by omega
    have e' : j / 3 * Cel.k Ses + j % 3 = j := e
    rw [e'] at h1 h2
    rw [h1, ← h2, hu]
  ·
   rintro e w' ⟨v', rfl, hown, _, hb⟩
   exact ⟨v', rfl, hown, hb⟩
def Ses.pv (x : Ses) : Value := .slice x.a1 x.papers.length x.c1
/-- Sessions of the call's own, each with papers in a block of its own. -/
structure PW (base : Nat) (w : World) (v : Value) (l : List Ses) : Prop where
 own : Own base 67 w v l
 inn : ∀ x ∈ l, Own base 9 w x.pv x.papers
 apt : ∀ x ∈ l, Apt v x.pv
 dis : l.Pairwise (fun x y => Apt x.pv y.pv)
section
variable {base : Nat} {w w' : World} {v : Value} {l : List Ses}
theorem PW.nil (base : Nat) (w : World) : PW base w (.slice none 0 0) [] := ⟨Own.nil _ _ _, (fun x hx => by cases hx), (fun x hx => by cases hx), List.Pairwise.nil⟩
theorem PW.kp {X : Nat → Prop} (h : PW base w v l) (k : Kp X w w') (hX : ∀ j, base ≤ j → ¬ X j) : PW base w' v l :=
 ⟨h.own.kp k (fun j hj => hX j (h.own.lt j hj).1), fun x hx => (h.inn x hx).kp k (fun j hj => hX j ((h.inn x hx).lt j hj).1), h.apt, h.dis⟩
theorem PW.below (h : PW base w v l) (k : Below w.heap.size w w') : PW base w' v l := h.kp (X := fun _ => False) (Kp.of_below k) (fun _ _ h => h)
theorem PW.alloc (h : PW base w v l) (o : Obj) : PW base (w.alloc o) v l := h.below ((Below.refl _ _).alloc (Nat.le_refl _) o)
theorem PW.stp {S : Nat} (h : PW base w v l) (k : Stp S w w') (hS : S < base) : PW base w' v l := h.kp (Kp.of_stp (X := fun j => j = S) k rfl) (fun j hj e => by omega)
theorem PW.mono {base2 : Nat} (h : PW base w v l) (hb : base2 ≤ base) : PW base2 w v l := ⟨h.own.mono hb, fun x hx => (h.inn x hx).mono hb, h.apt, h.dis⟩
theorem PW.prg (h : PW base w v l) : ∃ a cap, v = .slice a l.length cap ∧ PRg w a l ∧ (a = none ∨ ∃ b off, a = some ⟨b, off, none⟩) ∧ l.length ≤ cap := by
 obtain ⟨a, cap, rfl, hsa, hf, hc⟩ := h.own.form
 refine ⟨a, cap, rfl, ⟨hsa, fun x hx => ?_⟩, ?_, hc⟩
 ·
  obtain ⟨a', c', he, hs, -, -⟩ := (h.inn x hx).form
  unfold Ses.pv at he
  simp only [Value.slice.injEq] at he
  rw [he.1]; exact hs
 ·
  rcases hf with h | ⟨b, h, -, -⟩
  ·
   exact .inl h
  ·
   exact .inr ⟨b, 0, h⟩
/-- The sessions were put in another order, or some of them are left. -/
theorem PW.turn (h : PW base w v l) {v' : Value} {l' : List Ses} (hk : Kp (fun j => v.ownBlock = some j) w w') (hown : Own base 67 w' v' l') (hat : ∀ j, v'.ownBlock = some j → v.ownBlock = some j) (hsub : ∀ x ∈ l', x ∈ l) (hd : l'.Pairwise (fun x y => Apt x.pv y.pv)) : PW base w' v' l' :=
 ⟨hown, fun x hx => (h.inn x (hsub x hx)).kp hk (fun j hj hv => h.apt x (hsub x hx) j hv hj), fun x hx j hj => h.apt x (hsub x hx) j (hat j hj), hd⟩
/-- A session more. -/
theorem PW.snoc (h : PW base w v l) {x : Ses} (hx : Own base 9 w x.pv x.papers) (hxv : Apt v x.pv) (hxd : ∀ y ∈ l, Apt y.pv x.pv) {v9 : Value} (hg : w.grownBy w' v.ownBlock) (hown : Own base 67 w' v9 (l ++ [x])) (hat : ∀ j, v9.ownBlock = some j → v.ownBlock = some j ∨ w.heap.size ≤ j) : PW base w' v9 (l ++ [x]) := by
 have hk : Kp (fun j => v.ownBlock = some j) w w' := (Kp.refl _ w).grown hg (fun j hj => .inl hj)
 have hall : ∀ y ∈ l ++ [x], Own base 9 w y.pv y.papers ∧ Apt v y.pv := fun y hy => by
  rcases List.mem_append.1 hy with h1 | h1
  ·
   exact ⟨h.inn y h1, h.apt y h1⟩
  ·
   rw [List.mem_singleton] at h1; subst h1; exact ⟨hx, hxv⟩
 refine ⟨hown, fun y hy => (hall y hy).1.kp hk (fun j hj hv => (hall y hy).2 j hv hj), fun y hy j hj hj2 => ?_, ?_⟩
 ·
  rcases hat j hj with h1 | h1
  ·
   exact (hall y hy).2 j h1 hj2
  ·
   have := ((hall y hy).1.lt j hj2).2
   omega
 ·
  rw [List.pairwise_append]
  refine ⟨h.dis, List.pairwise_singleton _ _, fun y hy z hz => ?_⟩
  rw [List.mem_singleton] at hz
  subst hz
  exact hxd y hy
/-- The papers of one session were turned, and are stored. -/
theorem PW.papers {g n cap : Nat} (h : PW base w (.slice (some ⟨g, 0, none⟩) n cap) l) {i : Nat} (hi : i < l.length) {v2 : Value} {ps : List ByteArray} {a2 : Option Addr} {c2 : Nat} (hv2 : v2 = .slice a2 ps.length c2) (hk : Kp (fun j => l[i].pv.ownBlock = some j) w w') (hown : Own base 9 w' v2 ps) (hat : ∀ j, v2.ownBlock = some j → l[i].pv.ownBlock = some j ∨ w.heap.size ≤ j) :
  PW base (w'.setCell ⟨g, i * 3 + 2, none⟩ v2) (.slice (some ⟨g, 0, none⟩) n cap) (l.set i ⟨l[i].slot, l[i].room, ps, a2, c2⟩) := by
 have hm := List.getElem_mem hi
 have hpv : (⟨l[i].slot, l[i].room, ps, a2, c2⟩ : Ses).pv = v2 := hv2.symm
 have hgl : g < w.heap.size := (h.own.lt g rfl).2
 have hk2 : Kp (fun j => j = g) w' (w'.setCell ⟨g, i * 3 + 2, none⟩ v2) := (Kp.refl (fun j => j = g) w').setCell (p := ⟨g, i * 3 + 2, none⟩) (.inl rfl) v2
 have hv2g : v2.ownBlock ≠ some g := fun e => by
  rcases hat g e with h1 | h1
  ·
   exact h.apt _ hm g rfl h1
  ·
   omega
 have ho : Own base 67 w' (.slice (some ⟨g, 0, none⟩) n cap) l := h.own.kp hk (fun j hj hv => h.apt _ hm j hj hv)
 have hput := ho.put i 2 ⟨l[i].slot, l[i].room, ps, a2, c2⟩ v2 hi (by decide) (by rw [hv2]; rfl)
 rw [show i * Cel.k Ses + 2 = i * 3 + 2 from rfl] at hput
 have hne : ∀ k (hk : k < l.length), k ≠ i → Apt l[k].pv l[i].pv := fun k hk hki => by
  have hp := List.pairwise_iff_getElem.1 h.dis
  rcases Nat.lt_or_ge k i with h1 | h1
  ·
   exact hp k i hk hi h1
  ·
   exact (hp i k hi hk (by omega)).symm
 have hin : ∀ k (hk : k < l.length), k ≠ i → Own base 9 (w'.setCell ⟨g, i * 3 + 2, none⟩ v2) l[k].pv l[k].papers := fun k hk' hki => by
  have hmk := List.getElem_mem hk'
  exact ((h.inn _ hmk).kp hk (fun j hj hv => hne k hk' hki j hj hv)).kp hk2 (fun j hj e => h.apt _ hmk g rfl (e ▸ hj))
 have hap2 : ∀ k (hk : k < l.length), k ≠ i → Apt l[k].pv v2 := fun k hk' hki j hj hj2 => by
  rcases hat j hj2 with h1 | h1
  ·
   exact hne k hk' hki j hj h1
  ·
   have := ((h.inn _ (List.getElem_mem hk')).lt j hj).2; omega
 have hcase : ∀ k (hk : k < (l.set i ⟨l[i].slot, l[i].room, ps, a2, c2⟩).length), (k = i ∧ (l.set i ⟨l[i].slot, l[i].room, ps, a2, c2⟩)[k] = ⟨l[i].slot, l[i].room, ps, a2, c2⟩) ∨ ∃ h1 : k < l.length, k ≠ i ∧ (l.set i ⟨l[i].slot, l[i].room, ps, a2, c2⟩)[k] = l[k] := fun k hk' => by
  have hk3 : k < l.length := by simpa using hk'
  by_cases e : i = k
  ·
   subst e; exact .inl ⟨rfl, by rw [List.getElem_set_self]⟩
  ·
   exact .inr ⟨hk3, fun q => e q.symm, by rw [List.getElem_set_ne e]⟩
 refine ⟨hput, fun x hx => ?_, fun x hx => ?_, ?_⟩
 ·
  obtain ⟨k, hk', rfl⟩ := List.mem_iff_getElem.1 hx
  rcases hcase k hk' with ⟨-, e⟩ | ⟨h1, h2, e⟩
  ·
   rw [e, hpv]; exact hown.kp hk2 (fun j hj e => hv2g (e ▸ hj))
  ·
   rw [e]; exact hin k h1 h2
 ·
  obtain ⟨k, hk', rfl⟩ := List.mem_iff_getElem.1 hx
  rcases hcase k hk' with ⟨-, e⟩ | ⟨h1, h2, e⟩
  ·
   rw [e, hpv]
   intro j hj hj2
   obtain rfl : g = j := Option.some.inj hj
   exact hv2g hj2
  ·
   rw [e]; exact h.apt _ (List.getElem_mem h1)
 ·
  rw [List.pairwise_iff_getElem]
  intro p q hp hq hpq
  rcases hcase p hp with ⟨rfl, e⟩ | ⟨h1, h2, e⟩
  ·
   rcases hcase q hq with ⟨rfl, e'⟩ | ⟨h1', h2', e'⟩
   ·
    omega
   ·
    rw [e, e', hpv]; exact (hap2 q h1' h2').symm
  ·
   rcases hcase q hq with ⟨rfl, e'⟩ | ⟨h1', h2', e'⟩
   ·
    rw [e, e', hpv]; exact hap2 p h1 h2
   ·
    rw [e, e']
    exact List.pairwise_iff_getElem.1 h.dis p q h1 h1' hpq
/-- The slot of one session is stored. -/
theorem PW.slot {g n cap : Nat} (h : PW base w (.slice (some ⟨g, 0, none⟩) n cap) l) {i : Nat} (hi : i < l.length) (x : ByteArray) :
  PW base (w.setCell ⟨g, i * 3, none⟩ (.string x)) (.slice (some ⟨g, 0, none⟩) n cap) (l.set i ⟨x, l[i].room, l[i].papers, l[i].a1, l[i].c1⟩) := by
 have hk2 : Kp (fun j => j = g) w (w.setCell ⟨g, i * 3, none⟩ (.string x)) := (Kp.refl (fun j => j = g) w).setCell (p := ⟨g, i * 3, none⟩) (.inl rfl) _
 have hput := h.own.put i 0 ⟨x, l[i].room, l[i].papers, l[i].a1, l[i].c1⟩ (.string x) hi (by decide) rfl
 rw [show i * Cel.k Ses + 0 = i * 3 from rfl] at hput
 have hcase : ∀ k (hk : k < (l.set i ⟨x, l[i].room, l[i].papers, l[i].a1, l[i].c1⟩).length), ∃ h1 : k < l.length, (l.set i ⟨x, l[i].room, l[i].papers, l[i].a1, l[i].c1⟩)[k].pv = l[k].pv ∧ (l.set i ⟨x, l[i].room, l[i].papers, l[i].a1, l[i].c1⟩)[k].papers = l[k].papers := fun k hk' => by
  have hk3 : k < l.length := by simpa using hk'
  by_cases e : i = k
  ·
   subst e; exact ⟨hk3, by rw [List.getElem_set_self]; rfl, by rw [List.getElem_set_self]⟩
  ·
   exact ⟨hk3, by rw [List.getElem_set_ne e], by rw [List.getElem_set_ne e]⟩
 refine ⟨hput, fun y hy => ?_, fun y hy => ?_, ?_⟩
 ·
  obtain ⟨k, hk', rfl⟩ := List.mem_iff_getElem.1 hy
  obtain ⟨h1, h2, h3⟩ := hcase k hk'
  rw [h2, h3]
  exact (h.inn _ (List.getElem_mem h1)).kp hk2 (fun j hj e => h.apt _ (List.getElem_mem h1) g rfl (e ▸ hj))
 ·
  obtain ⟨k, hk', rfl⟩ := List.mem_iff_getElem.1 hy
  obtain ⟨h1, h2, h3⟩ := hcase k hk'
  rw [h2]; exact h.apt _ (List.getElem_mem h1)
 ·
  rw [List.pairwise_iff_getElem]
  intro p q hp hq hpq
  obtain ⟨h1, h2, -⟩ := hcase p hp
  obtain ⟨h3, h4, -⟩ := hcase q hq
  rw [h2, h4]
  exact List.pairwise_iff_getElem.1 h.dis p q h1 h3 hpq
end
end Go.Proofs.YtldgphhiajhfhaaGreatDoor

/-! slices.Insert of one string, at any place. Written by gen/src/insstr.py. -/
namespace Go.Proofs.YtldgphhiajhfhaaGreatDoor
open Go.RowKit
set_option linter.unusedVariables false
set_option linter.unusedSimpArgs false

theorem Box.shapeS {w : World} {b : Nat} {T : TypeId} {vs : Array Value} (h : Box w b T vs) : w.shape? b = some (T, vs.size) := by
 unfold World.shape?
 have e : w.heap[b]? = some (.cells vs T (0, 0)) := h
 rw [e]
/-- At the end: as append. -/
theorem insertEnd_anyS (base : Nat) (l : List ByteArray) (v : Value) (w : World) (h : Own base 9 w v l) (x : ByteArray) (vb : Nat) (hvb : Box w vb 9 (Cel.cells x).toArray) (hbase : base ≤ w.heap.size) (hl : l.length ≤ 1000000) :
  Calls Tryz.prog 119 #[v, .int .i64 (l.length : Nat), .slice (some ⟨vb, 0, none⟩) 1 1] w (fun e w' => ∃ v', e = .returned v' ∧ Own base 9 w' v' (l ++ [x]) ∧ Kp (fun j => v.ownBlock = some j) w w' ∧ ∀ j, v'.ownBlock = some j → v.ownBlock = some j ∨ w.heap.size ≤ j) := by
 obtain ⟨la, cap, rfl, hsa, -, hcap⟩ := h.form
 have hq1 : ((l.length : Int) == (l.length : Int)) = true := by simp
 by_cases hcl : cap = l.length
 ·
  subst hcl
  go_enter Tryz.func119, Tryz.ntmps119
  go_wp2_with (at_builtin; refine wpList_append_lie (α := ByteArray) rfl _ _ 57 rfl 9 16 (.string ⟨#[]⟩) Tryz.underlying57 Tryz.infoString rfl _ l rfl h x _ rfl hvb (by omega) (by omega) (by omega) ?_; intro g9 cap9 w9 hown9 hg9 hat9; replace hg9 : w.grownBy w9 (Value.slice la l.length l.length).ownBlock := hg9; replace hat9 : (Value.slice la l.length l.length).ownBlock = some g9 ∨ g9 = w.heap.size := hat9)
  go_ret
  exact ⟨_, rfl, by have := hown9; exact this, (Kp.refl _ _).grown hg9 (fun j hj => .inl hj), fun j hj => by
   obtain rfl : g9 = j := Option.some.inj hj
   exact hat9.imp id (fun e => Nat.le_of_eq e.symm)⟩
 ·
  skip
  go_enter Tryz.func119, Tryz.ntmps119
  go_wp2_with (at_builtin; refine wpList_append_lie (α := ByteArray) rfl _ _ 57 rfl 9 16 (.string ⟨#[]⟩) Tryz.underlying57 Tryz.infoString rfl _ l rfl h x _ rfl hvb (by omega) (by omega) (by omega) ?_; intro g9 cap9 w9 hown9 hg9 hat9; replace hg9 : w.grownBy w9 (Value.slice la l.length cap).ownBlock := hg9; replace hat9 : (Value.slice la l.length cap).ownBlock = some g9 ∨ g9 = w.heap.size := hat9)
  go_ret
  exact ⟨_, rfl, by have := hown9; exact this, (Kp.refl _ _).grown hg9 (fun j hj => .inl hj), fun j hj => by
   obtain rfl : g9 = j := Option.some.inj hj
   exact hat9.imp id (fun e => Nat.le_of_eq e.symm)⟩
set_option maxRecDepth 100000 in
set_option maxHeartbeats 8000000 in
/-- Between others, with room: in place. -/
theorem insertShift_anyS (base : Nat) (l : List ByteArray) (g cap : Nat) (w : World) (h : Own base 9 w (.slice (some ⟨g, 0, none⟩) l.length cap) l) (i : Nat) (hi : i < l.length) (hroom : l.length + 1 ≤ cap) (hcap : cap ≤ maxLen) (x : ByteArray) (vb : Nat) (hvb : Box w vb 9 (Cel.cells x).toArray) (hlt : g < vb) (hl : l.length ≤ 1000000) :
  Calls Tryz.prog 119 #[.slice (some ⟨g, 0, none⟩) l.length cap, .int .i64 (i : Nat), .slice (some ⟨vb, 0, none⟩) 1 1] w (fun e w' => e = .returned (.slice (some ⟨g, 0, none⟩) (l.length + 1) cap) ∧ w' = (w.drew.setCells g ((i + 1)) ((l.drop i).flatMap Cel.cells)).setCells g (i) (Cel.cells x)) := by
 obtain ⟨cur, hbx, hsz, hbg, -, -, hA⟩ := h.spare
 have hk : Cel.k ByteArray = 1 := rfl
 have hsome : ∀ t, t < (l.length + 1) → (w.cell? ⟨g, t, none⟩).isSome = true := fun t ht => by
  rw [hbx.cell, Array.getElem?_eq_getElem (by rw [hsz, hk]; omega)]; rfl
 have hfz := hbx.frozen
 have hdl : ((l.drop i).flatMap Cel.cells).length = (l.length - i) := by rw [flat_cells_len, List.length_drop, hk, Nat.mul_one]
 have hone : ∀ v ∈ (l.drop i).flatMap Cel.cells, v.oneCell' = true := fun u hu => by
  obtain ⟨y, _, hy⟩ := List.mem_flatMap.1 hu
  exact Cel.one y u hy
 have hsz5 : (Tryz.prog.info? 9).map (·.size) = some 1 := by kernel_rfl
 have hov : ∀ ad lb cb, (callFunc 155 #[.slice (some ⟨vb, 0, none⟩) 1 1, .slice (some ⟨g, ad, none⟩) lb cb]).run Tryz.prog w = .ok (.value (.bool false)) w := fun ad lb cb => by
  rw [run_callFunc_extern Tryz.func155 (by kernel_rfl) (by kernel_rfl) (by kernel_rfl) (e := Extern.SlicesOverlaps.overlaps #[57, 57] #[4]) (by kernel_rfl),
   Lib.run_overlaps_apart w 57 4 9 Tryz.underlying57 1 (fun w => Tryz.sizeOf9 w) ⟨vb, 0, none⟩ ⟨g, ad, none⟩ 1 1 lb cb (by show vb ≠ g; omega) _ _ _ _ hvb.shapeS hbx.shapeS (by rw [hsz, hk]; omega) (hvb.frozen _) (hvb.frozen _)]
  rfl
 have hcp1 : ∀ ty dc sc dl sl ad aq, dl = l.length - i → sl = l.length + 1 - i → ad = (i + 1) → aq = i → (Builtin.copy_ #[57, 57] ty #[.slice (some ⟨g, ad, none⟩) dl dc, .slice (some ⟨g, aq, none⟩) sl sc]).run Tryz.prog w.drew = .ok (goInt (Nat.min sl dl)) (w.drew.setCells g ((i + 1)) ((l.drop i).flatMap Cel.cells)) := fun ty dc sc dl sl ad aq e1 e2 e3 e4 => by
  subst e1 e2 e3
  have e5 := e4.symm
  subst e5
  refine run_copy_many w.drew _ _ ty 9 g ((i + 1)) _ dc ⟨g, i, none⟩ _ sc 1 ((l.drop i).flatMap Cel.cells) Tryz.underlying57 hsz5 (by rw [hdl]; congr 1; simp only [Nat.min_def]; split <;> omega) ?_ (fun j hj => hsome _ (by rw [hdl] at hj; omega)) (fun j hj => hfz _) hone
  intro j u hj
  rw [Addr.add_lit]
  have hjl : j < (l.length - i) := by rw [← hdl]; exact (List.getElem?_eq_some_iff.1 hj).1
  have h1 := hA (i + j) 0 l[i + j] (List.getElem?_eq_getElem (by omega)) (by rw [hk]; omega)
  have h2 := flat_get (l.drop i) j 0 l[i + j] (by rw [List.getElem?_drop]; exact List.getElem?_eq_getElem (by omega)) (by rw [hk]; omega)
  rw [hk] at h1 h2
  simp only [Nat.mul_one, Nat.add_zero, Nat.zero_add] at h1 h2
  show w.cell? _ = _
  rw [h1, ← h2, hj]
 obtain ⟨W1, hW1⟩ : ∃ W1, W1 = w.drew.setCells g ((i + 1)) ((l.drop i).flatMap Cel.cells) := ⟨_, rfl⟩
 have hsome1 : ∀ t, t < (l.length + 1) → (W1.cell? ⟨g, t, none⟩).isSome = true := fun t ht => by
  rw [hW1]
  exact isSome_setCells g _ _ w.drew (fun j hj => hsome ((i + 1) + j) (by rw [hdl] at hj; omega)) _ (hsome t ht)
 have hcp2 : ∀ (W : World), (∀ x, W.cell? x = W1.cell? x) → (∀ x, W.frozen? x = W1.frozen? x) → ∀ ty dc dl ad, 1 ≤ dl → ad = i → (Builtin.copy_ #[57, 57] ty #[.slice (some ⟨g, ad, none⟩) dl dc, .slice (some ⟨vb, 0, none⟩) 1 1]).run Tryz.prog W = .ok (goInt (Nat.min 1 dl)) (W.setCells g (i) (Cel.cells x)) := fun W hWc hWf ty dc dl ad e1 e2 => by
  have e5 := e2.symm
  subst e5
  refine run_copy_many W _ _ ty 9 g (i) _ dc ⟨vb, 0, none⟩ _ 1 1 (Cel.cells x) Tryz.underlying57 hsz5 (by rw [Cel.len, hk]; have e : Nat.min 1 dl = 1 := Nat.min_eq_left e1; rw [e]) ?_ (fun j hj => by rw [hWc]; exact hsome1 _ (by rw [Cel.len, hk] at hj; omega)) (fun j hj => by rw [hWf, hW1, World.frozen?_setCells]; exact hfz _) (Cel.one x)
  intro j u hj
  rw [Addr.add_lit, hWc, hW1, World.cell?_setCells_out g _ _ _ _ (fun h _ => absurd h (by show vb ≠ g; omega))]
  have := hvb.cell j
  rw [show (0 + j) = j by omega]
  show w.cell? _ = _
  rw [this]
  simpa using hj
 rw [← hW1] at hcp1
 clear h hbx hvb hA hsome hone hdl hsz hsz5 hfz
 have mixed : Tryz.prog.follows .mixedOrders = true := by kernel_rfl
 have hz1 : ((i : Int) == (l.length : Int)) = false := by rw [beq_eq_false_iff_ne]; omega
 have hw1 : IntKind.i64.wrap ((i : Int) + 1) = (i : Int) + 1 := IntWalk.i64_in _ (by omega)
 have hw2 : IntKind.i64.wrap ((l.length : Int) + 1) = (l.length : Int) + 1 := IntWalk.i64_in _ (by omega)
 have hb0 : (0 : Int) ≤ (i : Int) := by omega
 have hb1 : (0 : Int) ≤ (i : Int) + 1 := by omega
 have hin : i ≤ l.length := by omega
 have hb2 : ¬ (cap = i + 1) := by omega
 have hb3 : ¬ (cap = i) := by omega
 have hb4 : (i : Int) ≤ (l.length : Int) + 1 := by omega
 have hgt : decide ((cap : Int) < (l.length : Int) + 1) = false := decide_eq_false (by omega)
 go_enter Tryz.func119, Tryz.ntmps119
 go_wp2_with (simp only [hov])
 go_region_law_o (refine step_copy_runI rfl _ _ 57 57 rfl _ _ (by simp [Act.eval, Act.put]) (by simp [Act.eval, Act.put]) (hcp1 _ _ _ _ _ _ _ (by omega) (by omega) (by omega) (by omega)) ?_)
 have hcpX := hcp2 _ (fun _ => rfl) (fun _ => rfl) 3 (cap - i) (l.length + 1 - i) (i) (by omega) rfl
 rw [hW1] at hcpX
 go_wp2_with fail
 go_ret
 first | exact ⟨rfl, rfl⟩ | exact ⟨rfl, by rw [hW1]⟩

theorem same_drewS (w : World) (ROW : Array Value) (E g o : Nat) (xs : List Value) : (∀ y, (((w.alloc (.cells ROW E)).drew.setCells g o xs).drew).cell? y = ((w.drew.alloc (.cells ROW E)).setCells g o xs).cell? y) ∧ (∀ y, (((w.alloc (.cells ROW E)).drew.setCells g o xs).drew).frozen? y = ((w.drew.alloc (.cells ROW E)).setCells g o xs).frozen? y) := ⟨fun _ => rfl, fun _ => rfl⟩
set_option maxRecDepth 100000 in
set_option maxHeartbeats 8000000 in
/-- Between others, without room: a new row. -/
theorem insertGrow_anyS (base : Nat) (l : List ByteArray) (g cap : Nat) (w : World) (h : Own base 9 w (.slice (some ⟨g, 0, none⟩) l.length cap) l) (i : Nat) (hi : i < l.length) (hroom : cap < l.length + 1) (hcap : l.length ≤ cap) (x : ByteArray) (vb : Nat) (hvb : Box w vb 9 (Cel.cells x).toArray) (hlt : g < vb) (hl : l.length ≤ 1000000) :
  Calls Tryz.prog 119 #[.slice (some ⟨g, 0, none⟩) l.length cap, .int .i64 (i : Nat), .slice (some ⟨vb, 0, none⟩) 1 1] w (fun e w' => ∃ G, e = .returned (.slice (some ⟨w.heap.size, 0, none⟩) (l.length + 1) G) ∧ l.length + 1 ≤ G ∧ G ≤ maxLen ∧ ∃ ROW : Array Value, ROW.size = G ∧ (∀ j, j < i → ROW[j]? = (l.flatMap Cel.cells)[j]?) ∧ w' = (((w.alloc (.cells ROW 9)).drew.setCells w.heap.size (i) (Cel.cells x)).drew).setCells w.heap.size ((i + 1)) ((l.drop i).flatMap Cel.cells)) := by
 obtain ⟨cur, hbx, hsz, hbg, -, -, hA⟩ := h.spare
 have hk : Cel.k ByteArray = 1 := rfl
 have hbw : g < w.heap.size := hbx.lt
 have hvw : vb < w.heap.size := hvb.lt
 obtain ⟨i0, hi0, hz0, hzs, hzb⟩ := info_parts Tryz.infoString
 have hfl : (l.flatMap Cel.cells).length = l.length := by rw [flat_cells_len, hk, Nat.mul_one]
 have hsplit : l.flatMap Cel.cells = (l.take i).flatMap Cel.cells ++ (l.drop i).flatMap Cel.cells := by rw [← List.flatMap_append, List.take_append_drop]
 have htl : ((l.take i).flatMap Cel.cells).length = i := by rw [flat_cells_len, List.length_take, hk, Nat.min_eq_left (by omega), Nat.mul_one]
 have hdl : ((l.drop i).flatMap Cel.cells).length = (l.length - i) := by rw [flat_cells_len, List.length_drop, hk, Nat.mul_one]
 have hone : ∀ v ∈ (l.drop i).flatMap Cel.cells, v.oneCell' = true := fun u hu => by
  obtain ⟨y, _, hy⟩ := List.mem_flatMap.1 hu
  exact Cel.one y u hy
 have hsz5 : (Tryz.prog.info? 9).map (·.size) = some 1 := by rw [hi0]; simp [hzs]
 have hcell : ∀ j u, (l.flatMap Cel.cells)[j]? = some u → w.cell? ⟨g, j, none⟩ = some u := fun j u hj => by
  have hjl : j < l.length := by rw [← hfl]; exact (List.getElem?_eq_some_iff.1 hj).1
  have h1 := hA j 0 l[j] (List.getElem?_eq_getElem (by omega)) (by rw [hk]; omega)
  have h2 := flat_get l j 0 l[j] (List.getElem?_eq_getElem (by omega)) (by rw [hk]; omega)
  rw [hk] at h1 h2
  simp only [Nat.mul_one, Nat.add_zero, Nat.zero_add] at h1 h2
  rw [h1, ← h2, hj]
 have hold : (Builtin.firstCells i0.size i (.slice (some ⟨g, 0, none⟩) i cap)).run Tryz.prog w.drew = .ok ((l.take i).flatMap Cel.cells).toArray w.drew := by
  rw [hzs]
  exact run_firstCells_some w.drew 1 i ⟨g, 0, none⟩ i cap ((l.take i).flatMap Cel.cells) (by rw [htl]; omega) (fun j u hj => by
   rw [Addr.add_lit, Nat.zero_add]
   have hjl : j < i := by rw [← htl]; exact (List.getElem?_eq_some_iff.1 hj).1
   refine hcell j u ?_
   rw [hsplit, List.getElem?_append_left (by rw [htl]; exact hjl)]
   exact hj)
 obtain ⟨G, hG⟩ : ∃ G, G = grownCap w (l.length + 1) cap 9 := ⟨_, rfl⟩
 obtain ⟨ROW, hROW⟩ : ∃ ROW : Array Value, ROW = ((l.take i).flatMap Cel.cells).toArray ++ Builtin.zeroCells (Value.string ⟨#[]⟩).cells (l.length + 1 - i) ++ Builtin.zeroCells (Value.string ⟨#[]⟩).cells (G - (l.length + 1)) := ⟨_, rfl⟩
 have hrz : ∀ ty, (Builtin.append_ #[57, 3] ty #[.slice (some ⟨g, 0, none⟩) i cap, .int .i64 ((l.length : Int) + 1 - (i : Int))]).run Tryz.prog w = .ok (.slice (some ⟨w.heap.size, 0, none⟩) (l.length + 1) G) (w.drew.alloc (.cells ROW 9)) := fun ty => by
  have h := Lib.run_append_grow_zeros w 57 3 ty 9 i0 _ .i64 .i64 Tryz.underlying57 Tryz.underlying3 hi0 hz0 (some ⟨g, 0, none⟩) i cap ((l.take i).flatMap Cel.cells) hold (l.length + 1 - i) (by omega) (by omega) (by omega) (by omega) (by rw [hzb]; omega) (by rw [hzb, show i + (l.length + 1 - i) = l.length + 1 by omega]; exact growslice_fits hroom (by omega))
  rw [show i + (l.length + 1 - i) = l.length + 1 by omega, ← hG, ← hROW] at h
  rw [show (l.length : Int) + 1 - (i : Int) = ((l.length + 1 - i : Nat) : Int) by omega]
  exact h
 have hGn : l.length + 1 ≤ G := by rw [hG]; exact grownCap_ge w _ _ _
 have hGm : G ≤ maxLen := by rw [hG]; exact grownCap_le_maxLen w (l.length + 1) cap 9 (by unfold maxLen; omega)
 have hRs : ROW.size = G := by
  rw [hROW]
  simp only [Array.size_append, List.size_toArray, htl, Builtin.zeroCells, Value.cells, Array.size_map, Array.size_range]
  simp
  omega
 have hRt : ∀ j, j < i → ROW[j]? = (l.flatMap Cel.cells)[j]? := fun j hj => by
  rw [hROW, Array.getElem?_append_left (by simp [htl]; omega), Array.getElem?_append_left (by simp [htl]; omega), hsplit, List.getElem?_append_left (by rw [htl]; exact hj)]
  simp
 clear hROW hold hG
 obtain ⟨W1, hW1⟩ : ∃ W1, W1 = w.drew.alloc (.cells ROW 9) := ⟨_, rfl⟩
 rw [← hW1] at hrz
 have hN : ∀ j, j < G → (W1.cell? ⟨w.heap.size, j, none⟩).isSome = true := fun j hj => by
  rw [hW1, World.cell?_alloc_at (w := w.drew) ROW _ w.heap.size j rfl, Array.getElem?_eq_getElem (by omega)]; rfl
 have hNf : ∀ j, W1.frozen? ⟨w.heap.size, j, none⟩ = false := fun j => by rw [hW1]; exact World.frozen?_alloc_at (w := w.drew) ROW _ w.heap.size j rfl
 have hOb : ∀ j u, w.cell? ⟨g, j, none⟩ = some u → W1.cell? ⟨g, j, none⟩ = some u := fun j u h => by rw [hW1, World.cell?_alloc_past (w := w.drew) _ g j hbw]; exact h
 have hOv : ∀ j u, w.cell? ⟨vb, j, none⟩ = some u → W1.cell? ⟨vb, j, none⟩ = some u := fun j u h => by rw [hW1, World.cell?_alloc_past (w := w.drew) _ vb j hvw]; exact h
 have hcx : ∀ j u, (Cel.cells x)[j]? = some u → w.cell? ⟨vb, j, none⟩ = some u := fun j u hj => by
  rw [hvb.cell j]
  simpa using hj
 have hcpA : ∀ (W : World), (∀ x, W.cell? x = W1.cell? x) → (∀ x, W.frozen? x = W1.frozen? x) → ∀ ty dc dl ad, 1 ≤ dl → ad = i → (Builtin.copy_ #[57, 57] ty #[.slice (some ⟨w.heap.size, ad, none⟩) dl dc, .slice (some ⟨vb, 0, none⟩) 1 1]).run Tryz.prog W = .ok (goInt (Nat.min 1 dl)) (W.setCells w.heap.size (i) (Cel.cells x)) := fun W hWc hWf ty dc dl ad e1 e2 => by
  have e5 := e2.symm
  subst e5
  refine run_copy_many W _ _ ty 9 w.heap.size (i) _ dc ⟨vb, 0, none⟩ _ 1 1 (Cel.cells x) Tryz.underlying57 hsz5 (by rw [Cel.len, hk]; have e : Nat.min 1 dl = 1 := Nat.min_eq_left e1; rw [e]) (fun j u hj => ?_) (fun j hj => by rw [hWc]; exact hN _ (by rw [Cel.len, hk] at hj; omega)) (fun j hj => by rw [hWf]; exact hNf _) (Cel.one x)
  rw [Addr.add_lit, hWc, Nat.zero_add]
  exact hOv j u (hcx j u hj)
 have hbN : g ≠ w.heap.size := by omega
 have hcpB : ∀ (W : World), (∀ y, W.cell? y = (W1.setCells w.heap.size (i) (Cel.cells x)).cell? y) → (∀ y, W.frozen? y = (W1.setCells w.heap.size (i) (Cel.cells x)).frozen? y) → ∀ ty dc sc dl sl ad aq, dl = l.length - i → sl = l.length - i → ad = (i + 1) → aq = i → (Builtin.copy_ #[57, 57] ty #[.slice (some ⟨w.heap.size, ad, none⟩) dl dc, .slice (some ⟨g, aq, none⟩) sl sc]).run Tryz.prog W = .ok (goInt (Nat.min sl dl)) (W.setCells w.heap.size ((i + 1)) ((l.drop i).flatMap Cel.cells)) := fun W hWc hWf ty dc sc dl sl ad aq e1 e2 e3 e4 => by
  subst e1 e2 e3
  have e5 := e4.symm
  subst e5
  refine run_copy_many W _ _ ty 9 w.heap.size ((i + 1)) _ dc ⟨g, i, none⟩ _ sc 1 ((l.drop i).flatMap Cel.cells) Tryz.underlying57 hsz5 (by rw [hdl]; have e : Nat.min (l.length - i) (l.length - i) = l.length - i := Nat.min_self _; rw [e]; omega) (fun j u hj => ?_) (fun j hj => ?_) (fun j hj => by rw [hWf, World.frozen?_setCells]; exact hNf _) hone
  ·
   rw [Addr.add_lit, hWc, World.cell?_setCells_out _ _ _ _ _ (fun h _ => absurd h hbN)]
   refine hOb _ u (hcell _ u ?_)
   rw [hsplit, List.getElem?_append_right (by rw [htl]; omega), htl, Nat.add_sub_cancel_left]
   exact hj
  ·
   rw [hWc]
   refine isSome_setCells _ _ _ _ (fun t ht => hN (i + t) (by rw [Cel.len, hk] at ht; omega)) _ (hN ((i + 1) + j) (by rw [hdl] at hj; omega))
 subst hW1
 have HA := Lib.hid hcpA
 have HB := Lib.hid hcpB
 clear hbN hcpA hcpB
 have HFIN : Hid (l.length + 1 ≤ G ∧ G ≤ maxLen ∧ ROW.size = G ∧ ∀ j, j < i → ROW[j]? = (l.flatMap Cel.cells)[j]?) := ⟨hGn, hGm, hRs, hRt⟩
 clear h hbx hvb hA hone hdl htl hfl hsplit hcell hsz hsz5 hRs hRt hN hNf hOb hOv hcx hi0 hz0 hzs hzb
 have mixed : Tryz.prog.follows .mixedOrders = true := by kernel_rfl
 have hz1 : ((i : Int) == (l.length : Int)) = false := by rw [beq_eq_false_iff_ne]; omega
 have hw1 : IntKind.i64.wrap ((i : Int) + 1) = (i : Int) + 1 := IntWalk.i64_in _ (by omega)
 have hw2 : IntKind.i64.wrap ((l.length : Int) + 1) = (l.length : Int) + 1 := IntWalk.i64_in _ (by omega)
 have hw3 : IntKind.i64.wrap ((l.length : Int) + 1 - (i : Int)) = (l.length : Int) + 1 - (i : Int) := IntWalk.i64_in _ (by omega)
 have hb0 : (0 : Int) ≤ (i : Int) := by omega
 have hb1 : (0 : Int) ≤ (i : Int) + 1 := by omega
 have hin : i ≤ l.length := by omega
 have hGi : ¬ (G = i) := by omega
 have hGim : ¬ (G = i + 1) := by omega
 have hci : ¬ (cap = i) := by omega
 have hb4 : (i : Int) ≤ (l.length : Int) + 1 := by omega
 have hgt : decide ((cap : Int) < (l.length : Int) + 1) = true := decide_eq_true (by omega)
 go_enter Tryz.func119, Tryz.ntmps119
 have hX1 := HA.out ((w.alloc (.cells ROW 9)).drew) (fun _ => rfl) (fun _ => rfl) 3 (G - i) (l.length + 1 - i) (i) (by omega) rfl
 go_wp2_with (at_builtin; refine Lib.wpList_append_run _ rfl _ _ _ _ rfl _ _ rfl rfl _ _ (hrz _) ?_)
 have HX2 := Lib.hid (HB.out (((w.alloc (.cells ROW 9)).drew.setCells w.heap.size (i) (Cel.cells x)).drew) (same_drewS _ _ _ _ _ _).1 (same_drewS _ _ _ _ _ _).2)
 have hX3 := HX2.out 3 (G - (i + 1)) (cap - i) (l.length - i) (l.length - i) ((i + 1)) (i) rfl rfl rfl rfl
 go_region_law_o (fail)
 go_wp2_with fail
 go_ret
 exact ⟨G, rfl, HFIN.out.1, HFIN.out.2.1, ROW, HFIN.out.2.2.1, HFIN.out.2.2.2, rfl⟩

theorem insertStr_any (base : Nat) (l : List ByteArray) (v : Value) (w : World) (h : Own base 9 w v l) (i : Nat) (hi : i ≤ l.length) (x : ByteArray) (vb : Nat) (hvb : Box w vb 9 (Cel.cells x).toArray) (hlt : ∀ j, v.ownBlock = some j → j < vb) (hbase : base ≤ w.heap.size) (hl : l.length ≤ 1000000) :
  Calls Tryz.prog 119 #[v, .int .i64 (i : Nat), .slice (some ⟨vb, 0, none⟩) 1 1] w (fun e w' => ∃ v', e = .returned v' ∧ Own base 9 w' v' (l.take i ++ x :: l.drop i) ∧ Kp (fun j => v.ownBlock = some j) w w' ∧ ∀ j, v'.ownBlock = some j → v.ownBlock = some j ∨ w.heap.size ≤ j) := by
 have hk : Cel.k ByteArray = 1 := rfl
 rcases Nat.lt_or_eq_of_le hi with hi | rfl
 ·
  obtain ⟨la, cap, rfl, hsa, hlf, hcap⟩ := h.form
  obtain ⟨g, rfl, hg1, hg2⟩ : ∃ g, la = some ⟨g, 0, none⟩ ∧ base ≤ g ∧ g < w.heap.size := by
   rcases hlf with rfl | ⟨g, rfl, h1, h2⟩
   ·
    rcases hsa with h1 | ⟨b, off, h1, -⟩
    ·
     rw [h1] at hi; simp at hi
    ·
     cases h1
   ·
    exact ⟨g, rfl, h1, h2⟩
  have hgv := hlt g rfl
  have hcm : cap ≤ maxLen := by
   rcases h.2 with ⟨h2, _⟩ | ⟨g', cap', cur, he, r1, r2, r3, r4, r5, r6⟩
   ·
    cases h2
   ·
    cases he; exact r4
  by_cases hroom : l.length + 1 ≤ cap
  ·
   refine (insertShift_anyS base l g cap w h i hi hroom hcm x vb hvb hgv hl).mono ?_
   rintro e w' ⟨rfl, rfl⟩
   have hown := Own.insert (Own.drew h) (i := i) (x := x) (by omega) hroom
   rw [hk, Nat.mul_one, Nat.mul_one] at hown
   have q1 : Kp (fun j => (Value.slice (some ⟨g, 0, none⟩) l.length cap).ownBlock = some j) w w.drew := (Kp.refl _ w).drew
   have q2 := kp_sets (X := fun j => (Value.slice (some ⟨g, 0, none⟩) l.length cap).ownBlock = some j) (g := g) (.inl rfl) ((l.drop i).flatMap Cel.cells) ((i + 1)) q1
   have q3 := kp_sets (X := fun j => (Value.slice (some ⟨g, 0, none⟩) l.length cap).ownBlock = some j) (g := g) (.inl rfl) (Cel.cells x) (i) q2
   exact ⟨_, rfl, hown, q3, fun j hj => .inl hj⟩
  ·
   refine (insertGrow_anyS base l g cap w h i hi (by omega) hcap x vb hvb hgv hl).mono ?_
   rintro e w' ⟨G, rfl, hG1, hG2, ROW, hRs, hRt, rfl⟩
   have hlen : (l.take i ++ x :: l.drop i).length = l.length + 1 := by simp; omega
   have hb1 := Box.new w 9 ROW
   have har := arr_insert2 (w := (w.alloc (.cells ROW 9)).drew) (g := w.heap.size) (l := l) (i := i) (x := x) (by omega) (fun p j y hp hy hj => ?_) (fun t ht => ?_)
   ·
    rw [hk, Nat.mul_one, Nat.mul_one] at har
    rw [← drew_setCells]
    generalize Cel.cells x = xs at *
    generalize (l.drop i).flatMap Cel.cells = ds at *
    obtain ⟨c1, k1, e1⟩ := (Box.drew hb1).sets xs (i)
    obtain ⟨c2, k2, e2⟩ := k1.sets ds ((i + 1))
    have q1 : Kp (fun j => (Value.slice (some ⟨g, 0, none⟩) l.length cap).ownBlock = some j) w (w.alloc (.cells ROW 9)).drew := ((Kp.refl _ w).alloc _).drew
    have q2 := kp_sets (g := w.heap.size) (.inr (Nat.le_refl _)) xs (i) q1
    have q3 := (kp_sets (g := w.heap.size) (.inr (Nat.le_refl _)) ds ((i + 1)) q2).drew
    have hown := Own.laid (base := base) (cap := G) (l := l.take i ++ x :: l.drop i) k2 hbase (by rw [e2, e1, hRs, hk, Nat.mul_one]) hG2 (by omega) har
    rw [hlen] at hown
    have hown2 := hown.drew
    generalize (((w.alloc (.cells ROW 9)).drew.setCells w.heap.size (i) xs).setCells w.heap.size ((i + 1)) ds).drew = W9 at *
    exact ⟨_, rfl, hown2, q3, fun j hj => .inr (by have : w.heap.size = j := Option.some.inj hj; omega)⟩
   ·
    rw [hk] at hj ⊢
    have hpl : p < l.length := (List.getElem?_eq_some_iff.1 hy).1
    have h1 := flat_get l p j y hy hj
    rw [hk] at h1
    show (w.alloc (.cells ROW 9)).cell? _ = _
    rw [hb1.cell, hRt _ (by omega), h1]
   ·
    rw [hk] at ht
    show ((w.alloc (.cells ROW 9)).cell? _).isSome = true
    rw [hb1.cell, Array.getElem?_eq_getElem (by omega)]
    rfl
 ·
  refine (insertEnd_anyS base l v w h x vb hvb hbase hl).mono ?_
  rintro e w' ⟨v', rfl, h1, h2, h3⟩
  exact ⟨v', rfl, by rw [List.take_length, List.drop_length]; exact h1, h2, h3⟩

end Go.Proofs.YtldgphhiajhfhaaGreatDoor
