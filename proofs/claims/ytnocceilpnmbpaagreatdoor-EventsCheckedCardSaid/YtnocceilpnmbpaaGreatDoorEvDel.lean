/- slices.Delete of one event. -/
import Derived.Test.YtnocceilpnmbpaaGreatDoorEvL
import Derived.Test.YtnocceilpnmbpaaGreatDoorSortW
import Derived.Test.YtnocceilpnmbpaaGreatDoorReg
import Derived.Deep.RegionLaw
namespace Go.Proofs.YtnocceilpnmbpaaGreatDoor
open Go.RowKit
set_option linter.unusedVariables false
set_option linter.unusedSimpArgs false

theorem run_clear_evs (w : World) (b o c : Nat) (hc : ∀ j, j < 9 → (w.cell? ⟨b, o + j, none⟩).isSome = true) (hf : ∀ j, j < 9 → w.frozen? ⟨b, o + j, none⟩ = false) :
  ∃ vs : List Value, vs.length = 9 ∧ ∀ ty, (Builtin.clear_ #[26] ty #[.slice (some ⟨b, o, none⟩) 1 c]).run Tryz.prog w = .ok (.tuple #[]) (w.setCells b o vs) := by
 have hlen : (Builtin.zeroCells #[.string ⟨#[]⟩, .string ⟨#[]⟩, .int .i64 0, .slice none 0 0, .int .i64 0, .string ⟨#[]⟩, .string ⟨#[]⟩, .string ⟨#[]⟩, .string ⟨#[]⟩] 1).toList.length = 9 := by simp [Builtin.zeroCells]
 have hone : ∀ v ∈ (Builtin.zeroCells #[.string ⟨#[]⟩, .string ⟨#[]⟩, .int .i64 0, .slice none 0 0, .int .i64 0, .string ⟨#[]⟩, .string ⟨#[]⟩, .string ⟨#[]⟩, .string ⟨#[]⟩] 1).toList, v.oneCell' = true := by
  intro v hv
  simp only [Builtin.zeroCells, Array.toList_map, List.mem_map] at hv
  obtain ⟨i, _, rfl⟩ := hv
  have h3 : i % 9 < 9 := Nat.mod_lt _ (by decide)
  show (#[Value.string ⟨#[]⟩, .string ⟨#[]⟩, .int .i64 0, .slice none 0 0, .int .i64 0, .string ⟨#[]⟩, .string ⟨#[]⟩, .string ⟨#[]⟩, .string ⟨#[]⟩][i % 9]!).oneCell' = true
  generalize i % 9 = r at *
  rcases (show r = 0 ∨ r = 1 ∨ r = 2 ∨ r = 3 ∨ r = 4 ∨ r = 5 ∨ r = 6 ∨ r = 7 ∨ r = 8 by omega) with rfl | rfl | rfl | rfl | rfl | rfl | rfl | rfl | rfl <;> rfl
 generalize hz : (Builtin.zeroCells #[.string ⟨#[]⟩, .string ⟨#[]⟩, .int .i64 0, .slice none 0 0, .int .i64 0, .string ⟨#[]⟩, .string ⟨#[]⟩, .string ⟨#[]⟩, .string ⟨#[]⟩] 1).toList = vs at *
 have hst := run_storeCells_cells (P := Tryz.prog) b o vs 0 w (by rw [hlen]; simpa using hc) (by rw [hlen]; simpa using hf) hone
 simp only [Nat.add_zero] at hst
 refine ⟨vs, hlen, fun ty => ?_⟩
 have hv : (zeroValue 53).run Tryz.prog w = .ok (.agg #[.string ⟨#[]⟩, .string ⟨#[]⟩, .int .i64 0, .slice none 0 0, .int .i64 0, .string ⟨#[]⟩, .string ⟨#[]⟩, .string ⟨#[]⟩, .string ⟨#[]⟩]) w := Tryz.zeroValue53 w
 simp [Builtin.clear_, run_underlying Tryz.underlying26, hv, Value.cells, hz, hst]
theorem arr_delete {α : Type} [Cel α] {w : World} {g : Nat} {l : List α} {k : Nat} (hk : k < l.length) (ha : ArrAt w g 0 l) (vs : List Value) (hvs : vs.length = Cel.k α) :
  ArrAt ((w.setCells g (k * Cel.k α) ((l.drop (k + 1)).flatMap Cel.cells)).setCells g ((l.length - 1) * Cel.k α) vs) g 0 (l.take k ++ l.drop (k + 1)) := by
 intro p j y hy hj
 have hfl : ((l.drop (k + 1)).flatMap Cel.cells).length = (l.length - (k + 1)) * Cel.k α := by rw [flat_cells_len, List.length_drop]
 have htl : (l.take k).length = k := by rw [List.length_take]; omega
 have hsome : ∀ i x, l[i]? = some x → ∀ j, j < Cel.k α → (w.cell? ⟨g, i * Cel.k α + j, none⟩).isSome = true := fun i x hx j hj => by
  have := ha i j x hx hj
  rw [Nat.zero_add] at this
  rw [this, List.getElem?_eq_getElem (by rw [Cel.len]; exact hj)]; rfl
 have hpl : p < l.length - 1 := by
  have := (List.getElem?_eq_some_iff.1 hy).1
  rw [List.length_append, htl, List.length_drop] at this
  omega
 have hlast : p * Cel.k α + j < (l.length - 1) * Cel.k α := by
  have : (p + 1) * Cel.k α ≤ (l.length - 1) * Cel.k α := Nat.mul_le_mul_right _ (by omega)
  rw [Nat.add_mul] at this
  omega
 rw [Nat.zero_add, World.cell?_setCells_out g _ _ _ _ (fun _ _ => .inl (by show p * Cel.k α + j < _; exact hlast))]
 by_cases hp : p < k
 ·
  rw [List.getElem?_append_left (by omega), List.getElem?_take_of_lt hp] at hy
  have hpk : (p + 1) * Cel.k α ≤ k * Cel.k α := Nat.mul_le_mul_right _ (by omega)
  rw [Nat.add_mul] at hpk
  rw [World.cell?_setCells_out g _ _ _ _ (fun _ _ => .inl (by show p * Cel.k α + j < _; omega))]
  have := ha p j y hy hj
  rwa [Nat.zero_add] at this
 ·
  obtain ⟨q, rfl⟩ : ∃ q, p = k + q := ⟨p - k, by omega⟩
  rw [List.getElem?_append_right (by omega), htl, Nat.add_sub_cancel_left] at hy
  have hq : (q + 1) * Cel.k α ≤ (l.length - (k + 1)) * Cel.k α := Nat.mul_le_mul_right _ (by omega)
  rw [Nat.add_mul] at hq
  have e : (k + q) * Cel.k α + j = k * Cel.k α + (q * Cel.k α + j) := by rw [Nat.add_mul]; omega
  have hin : ∀ t, t < ((l.drop (k + 1)).flatMap Cel.cells).length → (w.cell? ⟨g, k * Cel.k α + t, none⟩).isSome = true := fun t ht => by
   have hpos := Cel.pos (α := α)
   have hdl : t / Cel.k α < l.length - (k + 1) := Nat.div_lt_of_lt_mul (by rw [Nat.mul_comm]; omega)
   have e2 : k * Cel.k α + t = (k + t / Cel.k α) * Cel.k α + t % Cel.k α := by rw [Nat.add_mul, Nat.add_assoc]; congr 1; rw [Nat.mul_comm]; exact (Nat.div_add_mod _ _).symm
   rw [e2]
   exact hsome _ l[k + t / Cel.k α] (List.getElem?_eq_getElem (by omega)) _ (Nat.mod_lt _ hpos)
  rw [e, World.cell?_setCells_in g _ _ _ hin _ (by omega), ← flat_get (l.drop (k + 1)) q j y hy hj, List.getElem?_eq_getElem (by omega)]
set_option maxRecDepth 100000 in
theorem slice_mid {g n m cap : Nat} (ht : Tryz.prog.underlying 26 = some (.slice (Tryz.prog.elem 26))) (he : Tryz.prog.elem 26 = 53) (hlc : n ≤ cap) (hm : n = m + 1) : ∀ W, (Instr.sliceAt 26 (.slice (some ⟨g, 0, none⟩) m cap) (some (.int .i64 (m : Int))) (some (.int .i64 (n : Int))) none).run Tryz.prog W = .ok (.slice (some ⟨g, m * 9, none⟩) 1 (cap - m)) W := fun W => by
 rw [run_sliceAt_slice _ _ _ _ _ _ ht, run_slice_lh _ _ _ _ _ ht .i64 .i64 (m : Int) (n : Int) (by omega) (by omega) (by omega)]
 simp only [he, Tryz.sizeOf53, Result.andThen_ok, sliced]
 simp only [Int.toNat_natCast]
 rw [if_neg (show ¬ cap = m by omega), show n - m = 1 by omega]
 congr 3
 unfold Addr.add
 split
 ·
  rename_i h0; rw [h0]; rfl
 ·
  simp
set_option maxRecDepth 100000 in
set_option maxHeartbeats 4000000 in
theorem delEv_any (base : Nat) (l : List Ev) (g cap : Nat) (w : World) (h : Own base 53 w (.slice (some ⟨g, 0, none⟩) l.length cap) l) (k : Nat) (hk : k < l.length) (hl : l.length ≤ 1000000) (hcap : cap ≤ maxLen) :
  Calls Tryz.prog 43 #[.slice (some ⟨g, 0, none⟩) l.length cap, .int .i64 (k : Nat), .int .i64 ((k + 1 : Nat) : Int)] w (fun e w' => e = .returned (.slice (some ⟨g, 0, none⟩) (l.length - 1) cap) ∧ Own base 53 w' (.slice (some ⟨g, 0, none⟩) (l.length - 1) cap) (l.take k ++ l.drop (k + 1)) ∧ Kp (fun j => j = g) w w') := by
 have hH := Lib.hid h
 obtain ⟨cur, hbx, hsz, hbg, -, hlc, hA⟩ := h.spare
 clear h
 obtain ⟨n, hn⟩ : ∃ n, l.length = n := ⟨_, rfl⟩
 have Hn := Lib.hid hn
 rw [hn] at hk hl hlc ⊢
 clear hn
 unfold maxLen at hcap
 have hc1 : (k : Int) + 1 ≤ (n : Int) := by omega
 have hkc : k ≤ cap := by omega
 obtain ⟨m, hm⟩ : ∃ m, n = m + 1 := ⟨n - 1, by omega⟩
 rw [show n - 1 = m by omega]
 have hkn : ((k : Int) == ((k + 1 : Nat) : Int)) = false := beq_eq_false_iff_ne.2 (by omega)
 have he : Tryz.prog.elem 26 = 53 := by kernel_rfl
 have ht : Tryz.prog.underlying 26 = some (.slice (Tryz.prog.elem 26)) := by rw [he]; exact Tryz.underlying26
 obtain ⟨ad2, had2⟩ : ∃ ad2 : Addr, ad2 = (if cap = k + 1 then ⟨g, 0, none⟩ else Addr.add ⟨g, 0, none⟩ ((k + 1) * 9)) := ⟨_, rfl⟩
 have hB : ∀ W, (Instr.sliceAt 26 (.slice (some ⟨g, 0, none⟩) n cap) (some (.int .i64 ((k : Int) + 1))) none none).run Tryz.prog W = .ok (.slice (some ad2) (n - (k + 1)) (cap - (k + 1))) W := fun W => by
  rw [run_sliceAt_slice _ _ _ _ _ _ ht, run_slice_l _ _ _ _ _ ht .i64 ((k : Int) + 1) (by omega) (by omega)]
  simp only [he, Tryz.sizeOf53, Result.andThen_ok, sliced]
  rw [had2, show ((k : Int) + 1).toNat = k + 1 by omega]
  congr 2
  split <;> rfl
 have hbA : ∀ j u, ((l.drop (k + 1)).flatMap Cel.cells)[j]? = some u → w.drew.cell? (ad2.add j) = some u := by
  intro j u hu
  have hjl := (List.getElem?_eq_some_iff.1 hu).1
  rw [flat_cells_len, List.length_drop, Hn.out] at hjl
  have hk9 : Cel.k Ev = 9 := rfl
  rw [hk9] at hjl
  have hne : ¬ cap = k + 1 := fun e => by
   have : n - (k + 1) = 0 := by omega
   rw [this] at hjl; omega
  rw [had2, if_neg hne]
  have e1 : (Addr.add (Addr.add ⟨g, 0, none⟩ ((k + 1) * 9)) j : Addr) = ⟨g, (k + 1) * 9 + j, none⟩ := by
   have e3 : (Addr.add ⟨g, 0, none⟩ ((k + 1) * 9) : Addr) = ⟨g, (k + 1) * 9, none⟩ := by
    unfold Addr.add
    rw [if_neg (show ¬ (k + 1) * 9 = 0 by omega)]
    simp
   rw [e3]
   unfold Addr.add
   by_cases hj0 : j = 0
   ·
    subst hj0; rfl
   ·
    rw [if_neg hj0]
  rw [e1]
  show w.cell? ⟨g, (k + 1) * 9 + j, none⟩ = some u
  have e2 : (k + 1) * 9 + j = (k + 1 + j / 9) * 9 + j % 9 := by omega
  have hi : k + 1 + j / 9 < l.length := by rw [Hn.out]; omega
  have := hA (k + 1 + j / 9) (j % 9) l[k + 1 + j / 9] (List.getElem?_eq_getElem hi) (by rw [hk9]; omega)
  rw [Nat.zero_add, hk9, ← e2] at this
  rw [this]
  have h2 := flat_get (l.drop (k + 1)) (j / 9) (j % 9) l[k + 1 + j / 9] (by rw [List.getElem?_drop]; exact List.getElem?_eq_getElem hi) (by rw [hk9]; omega)
  rw [hk9, show j / 9 * 9 + j % 9 = j by omega, hu] at h2
  exact h2.symm
 have hnl : ((l.drop (k + 1)).flatMap Cel.cells).length = (n - (k + 1)) * 9 := by rw [flat_cells_len, List.length_drop, Hn.out]; rfl
 have hone : ∀ u ∈ (l.drop (k + 1)).flatMap Cel.cells, u.oneCell' = true := fun u hu => by
  obtain ⟨y, _, hy⟩ := List.mem_flatMap.1 hu
  exact Cel.one y u hy
 have hk9 : Cel.k Ev = 9 := rfl
 have hspare : ∀ j, j < ((l.drop (k + 1)).flatMap Cel.cells).length → (w.drew.cell? ⟨g, 0 + k * 9 + j, none⟩).isSome = true ∧ w.drew.frozen? ⟨g, 0 + k * 9 + j, none⟩ = false := fun j hj => by
  refine ⟨?_, hbx.drew.frozen _⟩
  rw [hbx.drew.cell, Array.getElem?_eq_getElem (by rw [hsz, hk9]; omega)]; rfl
 obtain ⟨cur1, hbx1, hsz1⟩ := Box.sets ((l.drop (k + 1)).flatMap Cel.cells) (k * 9) hbx.drew
 obtain ⟨vs, hvl, hclr⟩ := run_clear_evs (w.drew.setCells g (k * 9) ((l.drop (k + 1)).flatMap Cel.cells)) g ((n - 1) * 9) (cap - (n - 1)) (fun j hj => by rw [hbx1.cell, Array.getElem?_eq_getElem (by rw [hsz1, hsz, hk9]; omega)]; rfl) (fun j hj => hbx1.frozen _)
 have hdel := arr_delete (w := w.drew) (by rw [Hn.out]; exact hk) (show ArrAt w.drew g 0 l from hA) vs hvl
 rw [Hn.out, hk9] at hdel
 have hkp : Kp (fun j => j = g) w ((w.drew.setCells g (k * 9) ((l.drop (k + 1)).flatMap Cel.cells)).setCells g ((n - 1) * 9) vs) := kp_sets (X := fun j => j = g) (g := g) (.inl rfl) _ _ (kp_sets (X := fun j => j = g) (g := g) (.inl rfl) _ _ (Kp.refl (fun j => j = g) w).drew)
 have hown : Own base 53 ((w.drew.setCells g (k * 9) ((l.drop (k + 1)).flatMap Cel.cells)).setCells g ((n - 1) * 9) vs) (.slice (some ⟨g, 0, none⟩) (n - 1) cap) (l.take k ++ l.drop (k + 1)) := by
  have hL : (l.take k ++ l.drop (k + 1)).length = n - 1 := by rw [List.length_append, List.length_take, List.length_drop, Hn.out]; omega
  have := Own.turnedN (w' := (w.drew.setCells g (k * 9) ((l.drop (k + 1)).flatMap Cel.cells)).setCells g ((n - 1) * 9) vs) (l' := l.take k ++ l.drop (k + 1)) hH.out (fun cur hb => by
   obtain ⟨c1, b1, s1⟩ := Box.sets ((l.drop (k + 1)).flatMap Cel.cells) (k * 9) hb.drew
   obtain ⟨c2, b2, s2⟩ := Box.sets vs ((n - 1) * 9) b1
   exact ⟨c2, b2, by rw [s2, s1]⟩) (by rw [hL]; omega) hdel
  rw [hL] at this
  exact this
 have Hown := Lib.hid hown
 have Hkp := Lib.hid hkp
 have HbA := Lib.hid hbA
 have Hsp := Lib.hid hspare
 clear hown hkp hdel hbA hspare hA hbx hbx1 hsz hsz1 had2
 obtain ⟨i0, hi0, hz0, hz1, hz2⟩ := info_parts infoEv
 have hC0 := slice_mid (g := g) ht he hlc hm
 have HC0 := Lib.hid hC0
 have Hm := Lib.hid hm
 clear ht he hC0 hm hk9
 go_enter Tryz.func43, Tryz.ntmps43
 go_upto_region 5 with (fail)
 refine wp_region_held_drew (S := (fun _ => True)) (by kernel_rfl) ?hS (fun hHeld => ?_)
 case hS => exact trivial
 refine rt 0 (some 20) ?_
 refine rt 1 (some 21) ?_
 refine rt 2 (some 22) ?_
 refine rt 3 (some 23) ?_
 refine rt 4 (some 24) ?_
 refine rt 5 (some 25) ?_
 generalize (l.drop (k + 1)).flatMap Cel.cells = news at *
 refine rcall (i := 6) (d := (some 26)) (by kernel_rfl) rfl (by kernel_rfl) (fun K hK => ?_)
 refine step_append_room (by rfl) _ _ 26 (by rfl) 53 i0 9 Tryz.underlying26 hi0 hz1 g 0 k cap (by rfl) ad2 (n - (k + 1)) (cap - (k + 1)) news (by rfl) hnl HbA.out hone (by omega) Hsp.out ?_
 refine hK.out _ _ ?hS (fun hHeld => ?_)
 case hS => exact trivial
 clear hK K
 simp only [Act.put, lsetA, lsetZ, lsetS]
 have hmm := Hm.out
 rw [show k + (n - (k + 1)) = m by omega, show 0 + k * 9 = k * 9 by omega]
 rw [show n - 1 = m by omega] at hclr Hown Hkp
 clear hmm
 refine rt 7 (some 0) ?_
 refine wpAnyH_done (by kernel_rfl) ?_ _
 have hC := HC0.out
 generalize w.drew.setCells g (k * 9) news = w2 at *
 clear hB
 go_wp2_with fail
 go_ret
 exact ⟨rfl, Hown.out, Hkp.out⟩
end Go.Proofs.YtnocceilpnmbpaaGreatDoor
