/- The program's fields: maps of keys to places. Written by gen/src/field1.py. -/
import Derived.Test.YtldgphhiajhfhaaGreatDoorPrgC1
import Derived.Test.YtldgphhiajhfhaaGreatDoorMapBan
namespace Go.Proofs.YtldgphhiajhfhaaGreatDoor
open Go.RowKit
set_option linter.unusedVariables false
set_option linter.unusedSimpArgs false

/-- The map of the first bans. -/
def banTo (l : List Ban2) : Nat → List (Two × Value)
 | 0 => []
 | k + 1 => match l[k]? with
  | none => banTo l k
  | some x => gput (banTo l k) x (.bool true)
theorem banTo_succ {l : List Ban2} {k : Nat} (h : k < l.length) : banTo l (k + 1) = gput (banTo l k) l[k] (.bool true) := by
 show (match l[k]? with | none => banTo l k | some x => gput (banTo l k) x (.bool true)) = _
 rw [List.getElem?_eq_getElem h]
/-- A grid by keys, at block fb. -/
structure FieldAt (g : Grd) (fb br bs bt bb : Nat) (w : World) : Prop where
 box : Box w fb 143 #[.slice g.ra g.rooms.length g.rc, .slice g.sa g.slots.length g.sc, .slice g.ta g.talks.length g.tc, .slice g.wa g.wishes.length g.wc, .slice g.ba g.bans.length g.bc, .map (some br), .map (some bs), .map (some bt), .map (some bb)]
 r : MBox w br (idxL (g.rooms.map (·.1)))
 s : MBox w bs (idxL (g.slots.map (·.1)))
 t : MBox w bt (idxL (g.talks.map (·.paper)))
 b : GBox enc2 ok2 w bb (banTo g.bans g.bans.length)
theorem FieldAt.below {g : Grd} {fb br bs bt bb : Nat} {w w' : World} (h : FieldAt g fb br bs bt bb w) (k : Below w.heap.size w w') : FieldAt g fb br bs bt bb w' := ⟨h.box.below k, h.r.below k, h.s.below k, h.t.below k, h.b.below k⟩
theorem MBox.newAt (w : World) (n : Nat) (h : n = w.heap.size) : MBox (w.alloc (.map #[] 0)) n [] := by subst h; exact MBox.new w
set_option maxRecDepth 100000 in
set_option maxHeartbeats 16000000 in
theorem fieldOf_any (g : Grd) (w : World) (hg : GRd w g) (hzz : GSm g) : Calls Tryz.prog 37 #[g.agg] w (fun e w' => ∃ fb br bs bt bb, e = .returned (.pointer (some ⟨fb, 0, none⟩)) ∧ FieldAt g fb br bs bt bb w' ∧ w.heap.size ≤ fb ∧ Below w.heap.size w w') := by
 have HG := Lib.hid (fun W (h : Below w.heap.size w W) => hg.below h)
 have HZM := Lib.hid hzz
 have hn1 := hzz.rooms
 have hn2 := hzz.slots
 have hn3 := hzz.talks
 have hn5 := hzz.bans
 clear hg hzz
 rw [Grd.agg_eq]
 have hX0 := Box.new w 32 #[.slice g.ra g.rooms.length g.rc, .slice g.sa g.slots.length g.sc, .slice g.ta g.talks.length g.tc, .slice g.wa g.wishes.length g.wc, .slice g.ba g.bans.length g.bc]
 go_enter Tryz.func37, Tryz.ntmps37
 have hX0_l := hX0.lt; have hX0_0 := hX0.cell 0; have hX0_1 := hX0.cell 1; have hX0_2 := hX0.cell 2; have hX0_3 := hX0.cell 3; have hX0_4 := hX0.cell 4; simp at hX0_0 hX0_1 hX0_2 hX0_3 hX0_4
 have hmm := @run_makeMap Tryz.prog
 go_upto_region 2 with (fail)
 clear hX0_l hX0_0 hX0_1 hX0_2 hX0_3 hX0_4
 have q1 : (w.alloc (.cells #[.slice g.ra g.rooms.length g.rc, .slice g.sa g.slots.length g.sc, .slice g.ta g.talks.length g.tc, .slice g.wa g.wishes.length g.wc, .slice g.ba g.bans.length g.bc] 32)).heap.size = w.heap.size + 1 := by simp
 generalize hA1 : w.alloc (.cells #[.slice g.ra g.rooms.length g.rc, .slice g.sa g.slots.length g.sc, .slice g.ta g.talks.length g.tc, .slice g.wa g.wishes.length g.wc, .slice g.ba g.bans.length g.bc] 32) = A1 at *
 have hM0 := (((MBox.newAt A1 (w.heap.size + 1) q1.symm).alloc (.map #[] 0)).alloc (.map #[] 0)).alloc (.map #[] 0)
 have hM1 := ((MBox.newAt (A1.alloc (.map #[] 0)) (w.heap.size + 1 + 1) (by simp; omega)).alloc (.map #[] 0)).alloc (.map #[] 0)
 have hM2 := (MBox.newAt ((A1.alloc (.map #[] 0)).alloc (.map #[] 0)) (w.heap.size + 1 + 1 + 1) (by simp; omega)).alloc (.map #[] 0)
 have hM3 := GBox.newAt enc2 ok2 (((A1.alloc (.map #[] 0)).alloc (.map #[] 0)).alloc (.map #[] 0)) (w.heap.size + 1 + 1 + 1 + 1) (by simp; omega)
 have hX1 := ((((hX0).alloc (.map #[] 0)).alloc (.map #[] 0)).alloc (.map #[] 0)).alloc (.map #[] 0)
 have hb1 : Below w.heap.size w ((((A1.alloc (.map #[] 0)).alloc (.map #[] 0)).alloc (.map #[] 0)).alloc (.map #[] 0)) := by
  rw [← hA1]
  exact (((((Below.refl _ _).alloc (Nat.le_refl _) _).alloc (by simp) _).alloc (by simp; omega) _).alloc (by simp; omega) _).alloc (by simp; omega) _
 have q5 : ((((A1.alloc (.map #[] 0)).alloc (.map #[] 0)).alloc (.map #[] 0)).alloc (.map #[] 0)).heap.size = w.heap.size + 5 := by simp; omega
 generalize (((A1.alloc (.map #[] 0)).alloc (.map #[] 0)).alloc (.map #[] 0)).alloc (.map #[] 0) = A5 at *
 have hF := Box.newAt A5 (w.heap.size + 1 + 1 + 1 + 1 + 1) 143 #[.slice g.ra g.rooms.length g.rc, .slice g.sa g.slots.length g.sc, .slice g.ta g.talks.length g.tc, .slice g.wa g.wishes.length g.wc, .slice g.ba g.bans.length g.bc, .map (some (w.heap.size + 1)), .map (some (w.heap.size + 1 + 1)), .map (some (w.heap.size + 1 + 1 + 1)), .map (some (w.heap.size + 1 + 1 + 1 + 1))] (by omega)
 have hX := hX1.alloc (.cells #[.slice g.ra g.rooms.length g.rc, .slice g.sa g.slots.length g.sc, .slice g.ta g.talks.length g.tc, .slice g.wa g.wishes.length g.wc, .slice g.ba g.bans.length g.bc, .map (some (w.heap.size + 1)), .map (some (w.heap.size + 1 + 1)), .map (some (w.heap.size + 1 + 1 + 1)), .map (some (w.heap.size + 1 + 1 + 1 + 1))] 143)
 have hM0 := hM0.alloc (.cells #[.slice g.ra g.rooms.length g.rc, .slice g.sa g.slots.length g.sc, .slice g.ta g.talks.length g.tc, .slice g.wa g.wishes.length g.wc, .slice g.ba g.bans.length g.bc, .map (some (w.heap.size + 1)), .map (some (w.heap.size + 1 + 1)), .map (some (w.heap.size + 1 + 1 + 1)), .map (some (w.heap.size + 1 + 1 + 1 + 1))] 143)
 have hM1 := hM1.alloc (.cells #[.slice g.ra g.rooms.length g.rc, .slice g.sa g.slots.length g.sc, .slice g.ta g.talks.length g.tc, .slice g.wa g.wishes.length g.wc, .slice g.ba g.bans.length g.bc, .map (some (w.heap.size + 1)), .map (some (w.heap.size + 1 + 1)), .map (some (w.heap.size + 1 + 1 + 1)), .map (some (w.heap.size + 1 + 1 + 1 + 1))] 143)
 have hM2 := hM2.alloc (.cells #[.slice g.ra g.rooms.length g.rc, .slice g.sa g.slots.length g.sc, .slice g.ta g.talks.length g.tc, .slice g.wa g.wishes.length g.wc, .slice g.ba g.bans.length g.bc, .map (some (w.heap.size + 1)), .map (some (w.heap.size + 1 + 1)), .map (some (w.heap.size + 1 + 1 + 1)), .map (some (w.heap.size + 1 + 1 + 1 + 1))] 143)
 have hM3 := hM3.alloc (.cells #[.slice g.ra g.rooms.length g.rc, .slice g.sa g.slots.length g.sc, .slice g.ta g.talks.length g.tc, .slice g.wa g.wishes.length g.wc, .slice g.ba g.bans.length g.bc, .map (some (w.heap.size + 1)), .map (some (w.heap.size + 1 + 1)), .map (some (w.heap.size + 1 + 1 + 1)), .map (some (w.heap.size + 1 + 1 + 1 + 1))] 143)
 have hb := hb1.alloc (by omega) (.cells #[.slice g.ra g.rooms.length g.rc, .slice g.sa g.slots.length g.sc, .slice g.ta g.talks.length g.tc, .slice g.wa g.wishes.length g.wc, .slice g.ba g.bans.length g.bc, .map (some (w.heap.size + 1)), .map (some (w.heap.size + 1 + 1)), .map (some (w.heap.size + 1 + 1 + 1)), .map (some (w.heap.size + 1 + 1 + 1 + 1))] 143)
 have hz : w.heap.size + 6 ≤ (A5.alloc (.cells #[.slice g.ra g.rooms.length g.rc, .slice g.sa g.slots.length g.sc, .slice g.ta g.talks.length g.tc, .slice g.wa g.wishes.length g.wc, .slice g.ba g.bans.length g.bc, .map (some (w.heap.size + 1)), .map (some (w.heap.size + 1 + 1)), .map (some (w.heap.size + 1 + 1 + 1)), .map (some (w.heap.size + 1 + 1 + 1 + 1))] 143)).heap.size := by simp; omega
 clear hX1 hb1 hA1 q1 q5 hX0 hmm
 generalize A5.alloc (.cells #[.slice g.ra g.rooms.length g.rc, .slice g.sa g.slots.length g.sc, .slice g.ta g.talks.length g.tc, .slice g.wa g.wishes.length g.wc, .slice g.ba g.bans.length g.bc, .map (some (w.heap.size + 1)), .map (some (w.heap.size + 1 + 1)), .map (some (w.heap.size + 1 + 1 + 1)), .map (some (w.heap.size + 1 + 1 + 1 + 1))] 143) = A6 at *
 have hX_l := hX.lt; have hX_0 := hX.cell 0; have hX_1 := hX.cell 1; have hX_2 := hX.cell 2; have hX_3 := hX.cell 3; have hX_4 := hX.cell 4; simp at hX_0 hX_1 hX_2 hX_3 hX_4
 go_wp2_with fail
 clear hX_l hX_0 hX_1 hX_2 hX_3 hX_4
 go_loopg [22] g.rooms.length (fun gk iv wr => ∃ k : Nat, iv = .int .i64 k ∧ k ≤ g.rooms.length ∧ Hid (gk = g.rooms.length - k) ∧ MBox wr (w.heap.size + 1) (idxTo (g.rooms.map (·.1)) k) ∧ MBox wr (w.heap.size + 1 + 1) (idxTo (g.slots.map (·.1)) 0) ∧ MBox wr (w.heap.size + 1 + 1 + 1) (idxTo (g.talks.map (·.paper)) 0) ∧ GBox enc2 ok2 wr (w.heap.size + 1 + 1 + 1 + 1) (banTo g.bans 0) ∧ Box wr (w.heap.size + 1 + 1 + 1 + 1 + 1) 143 #[.slice g.ra g.rooms.length g.rc, .slice g.sa g.slots.length g.sc, .slice g.ta g.talks.length g.tc, .slice g.wa g.wishes.length g.wc, .slice g.ba g.bans.length g.bc, .map (some (w.heap.size + 1)), .map (some (w.heap.size + 1 + 1)), .map (some (w.heap.size + 1 + 1 + 1)), .map (some (w.heap.size + 1 + 1 + 1 + 1))] ∧ Box wr w.heap.size 32 #[.slice g.ra g.rooms.length g.rc, .slice g.sa g.slots.length g.sc, .slice g.ta g.talks.length g.tc, .slice g.wa g.wishes.length g.wc, .slice g.ba g.bans.length g.bc] ∧ w.heap.size + 6 ≤ wr.heap.size ∧ Below w.heap.size w wr)
 case atStart => exact ⟨0, rfl, by omega, rfl, hM0, hM1, hM2, hM3, hF, hX, hz, hb⟩
 case round =>
  clear hM0 hM1 hM2 hM3 hF hX hz hb
  obtain ⟨k, rfl, hk, hgk, hM0, hM1, hM2, hM3, hF, hX, hz, hb⟩ := hrel
  by_cases hlt : k < g.rooms.length
  ·
   obtain ⟨b, off, ha, c0, c1⟩ := (HG.out _ hb).rooms.romC hlt
   have Hsu := Lib.hid (idxTo_succ (ks := (g.rooms.map (·.1))) (k := k) (by simpa using hlt))
   rw [List.getElem_map] at Hsu
   generalize g.rooms[k] = x at *
   have Ha := Lib.hid ha
   rw [ha]
   clear ha
   obtain ⟨x1, x2⟩ := x
   simp only at c0 c1 Hsu
   go_upto_region 5 with (fail)
   have kM0 := hM0.alloc (.cells #[.string x1, .int .i64 x2] 54)
   have kM1 := hM1.alloc (.cells #[.string x1, .int .i64 x2] 54)
   have kM2 := hM2.alloc (.cells #[.string x1, .int .i64 x2] 54)
   have kM3 := hM3.alloc (.cells #[.string x1, .int .i64 x2] 54)
   have kF := hF.alloc (.cells #[.string x1, .int .i64 x2] 54)
   have kX := hX.alloc (.cells #[.string x1, .int .i64 x2] 54)
   have kE := Box.new wr 54 #[.string x1, .int .i64 x2]
   have kb := hb.alloc hb.size (.cells #[.string x1, .int .i64 x2] 54)
   have kz : w.heap.size + 6 ≤ (wr.alloc (.cells #[.string x1, .int .i64 x2] 54)).heap.size := by simp; omega
   clear hM0 hM1 hM2 hM3 hF hX hz hb c0 c1
   generalize wr.alloc (.cells #[.string x1, .int .i64 x2] 54) = w2 at *
   generalize wr.heap.size = n2 at *
   have hf0 := kF.cell 5
   simp at hf0
   have he0 := kE.cell 0
   simp at he0
   refine wp_regionF (S := (fun wx => wx.cell? ⟨w.heap.size + 1 + 1 + 1 + 1 + 1, 5, none⟩ = some (.map (some (w.heap.size + 1))) ∧ wx.cell? ⟨n2, 0, none⟩ = some (.string x1))) 7 (by kernel_rfl) ?hS (fun hHeld => ?_)
   case hS => exact ⟨hf0, he0⟩
   refine rtakeF (i := 0) (d := (some 27)) (v := ?_) (n := 40) rfl (by kernel_rfl) (by kernel_rfl) (by kernel_rfl) (by kernel_rfl) (by kernel_rfl) (by kernel_rfl) (fun _ _ _ h => h) (by kernel_rfl) (by assumption) ?_ ?_
   rotate_left 1
   ·
    (intro wI hSI; (try dsimp only at hSI); go_simp; (try with_reducible rfl))
   simp only [Act.put, lsetA, lsetZ, lsetS]
   refine rtakeF (i := 1) (d := (some 28)) (v := ?_) (n := 40) rfl (by kernel_rfl) (by kernel_rfl) (by kernel_rfl) (by kernel_rfl) (by kernel_rfl) (by kernel_rfl) (fun _ _ _ h => h) (by kernel_rfl) (by assumption) ?_ ?_
   rotate_left 1
   ·
    (intro wI hSI; (try dsimp only at hSI); go_simp; (try with_reducible rfl))
   simp only [Act.put, lsetA, lsetZ, lsetS]
   refine rtakeF (i := 2) (d := (some 29)) (v := ?_) (n := 40) rfl (by kernel_rfl) (by kernel_rfl) (by kernel_rfl) (by kernel_rfl) (by kernel_rfl) (by kernel_rfl) (fun _ _ _ h => h) (by kernel_rfl) (by assumption) ?_ ?_
   rotate_left 1
   ·
    (intro wI hSI; (try dsimp only at hSI); go_simp; (try with_reducible rfl))
   simp only [Act.put, lsetA, lsetZ, lsetS]
   refine rtakeF (i := 3) (d := (some 30)) (v := ?_) (n := 40) rfl (by kernel_rfl) (by kernel_rfl) (by kernel_rfl) (by kernel_rfl) (by kernel_rfl) (by kernel_rfl) (fun _ _ _ h => h) (by kernel_rfl) (by assumption) ?_ ?_
   rotate_left 1
   ·
    (intro wI hSI; (try dsimp only at hSI); go_simp; (try with_reducible rfl))
   simp only [Act.put, lsetA, lsetZ, lsetS]
   refine rtakeF (i := 4) (d := (some 31)) (v := ?_) (n := 40) rfl (by kernel_rfl) (by kernel_rfl) (by kernel_rfl) (by kernel_rfl) (by kernel_rfl) (by kernel_rfl) (fun _ _ _ h => h) (by kernel_rfl) (by assumption) ?_ ?_
   rotate_left 1
   ·
    (intro wI hSI; (try dsimp only at hSI); go_simp; (try with_reducible rfl))
   simp only [Act.put, lsetA, lsetZ, lsetS]
   refine rtakeF (i := 5) (d := (some 32)) (v := ?_) (n := 40) rfl (by kernel_rfl) (by kernel_rfl) (by kernel_rfl) (by kernel_rfl) (by kernel_rfl) (by kernel_rfl) (fun _ _ _ h => h) (by kernel_rfl) (by assumption) ?_ ?_
   rotate_left 1
   ·
    (intro wI hSI; (try dsimp only at hSI); go_simp; (try with_reducible rfl))
   simp only [Act.put, lsetA, lsetZ, lsetS]
   refine rtakeF (i := 6) (d := (some 33)) (v := ?_) (n := 40) rfl (by kernel_rfl) (by kernel_rfl) (by kernel_rfl) (by kernel_rfl) (by kernel_rfl) (by kernel_rfl) (fun _ _ _ h => h) (by kernel_rfl) (by assumption) ?_ ?_
   rotate_left 1
   ·
    (intro wI hSI; (try dsimp only at hSI); go_simp; (try with_reducible rfl))
   simp only [Act.put, lsetA, lsetZ, lsetS]
   refine rcallF (i := 7) (d := none) (by kernel_rfl) rfl (by kernel_rfl) (fun K hK => ?_)
   refine step_mapUpdate_box (by rfl) _ _ _ 140 (by rfl) 9 3 Tryz.underlying140 Tryz.underlying9 (w.heap.size + 1) _ (by rfl) kM0.drew x1 (by rfl) (.int .i64 (k : Nat)) (by rfl) ?_; intro w5 hM5 hg5 hs5
   refine hK.out undef _ (.inl rfl) (fun _ => ?_)
   clear hK K
   simp only [Act.put, lsetA, lsetZ, lsetS]
   refine wpAnyF_done (by kernel_rfl) ?_ _
   have qM1 := kM1.drew.grown hg5 (fun e => by have := Option.some.inj e; omega)
   have qM2 := kM2.drew.grown hg5 (fun e => by have := Option.some.inj e; omega)
   have qM3 := kM3.drew.grown hg5 (fun e => by have := Option.some.inj e; omega)
   have qF := kF.drew.grown hg5 (fun e => by have := Option.some.inj e; omega)
   have qX := kX.drew.grown hg5 (fun e => by have := Option.some.inj e; omega)
   have qz : w.heap.size + 6 ≤ w5.heap.size := by rw [hs5]; exact kz
   have qb : Below w.heap.size w w5 := kb.drew.grown hg5 (by show w.heap.size ≤ w2.heap.size; omega) (fun j hj => by have := Option.some.inj hj; omega)
   rw [← Hsu.out] at hM5
   clear kM0 kM1 kM2 kM3 kF kX kE kb kz hg5 hHeld hf0 he0 hs5
   go_wp2_with fail
   rw [← Ha.out]
   go_roundg (g.rooms.length - (k + 1))
   case measure => have := hgk.out; omega
   case rel => exact ⟨k + 1, by go_num, by omega, rfl, hM5, qM1, qM2, qM3, qF, qX, qz, qb⟩
  ·
   obtain rfl : k = g.rooms.length := by omega
   have hM0 : MBox wr (w.heap.size + 1) (idxL (g.rooms.map (·.1))) := by have h := hM0; rw [show g.rooms.length = (g.rooms.map (·.1)).length by simp] at h; exact h
   clear hgk
   have hX_l := hX.lt; have hX_0 := hX.cell 0; have hX_1 := hX.cell 1; have hX_2 := hX.cell 2; have hX_3 := hX.cell 3; have hX_4 := hX.cell 4; simp at hX_0 hX_1 hX_2 hX_3 hX_4
   go_wp2_with fail
   clear hX_l hX_0 hX_1 hX_2 hX_3 hX_4
   go_loopg [38] g.slots.length (fun gk iv wr => ∃ k : Nat, iv = .int .i64 k ∧ k ≤ g.slots.length ∧ Hid (gk = g.slots.length - k) ∧ MBox wr (w.heap.size + 1) (idxL (g.rooms.map (·.1))) ∧ MBox wr (w.heap.size + 1 + 1) (idxTo (g.slots.map (·.1)) k) ∧ MBox wr (w.heap.size + 1 + 1 + 1) (idxTo (g.talks.map (·.paper)) 0) ∧ GBox enc2 ok2 wr (w.heap.size + 1 + 1 + 1 + 1) (banTo g.bans 0) ∧ Box wr (w.heap.size + 1 + 1 + 1 + 1 + 1) 143 #[.slice g.ra g.rooms.length g.rc, .slice g.sa g.slots.length g.sc, .slice g.ta g.talks.length g.tc, .slice g.wa g.wishes.length g.wc, .slice g.ba g.bans.length g.bc, .map (some (w.heap.size + 1)), .map (some (w.heap.size + 1 + 1)), .map (some (w.heap.size + 1 + 1 + 1)), .map (some (w.heap.size + 1 + 1 + 1 + 1))] ∧ Box wr w.heap.size 32 #[.slice g.ra g.rooms.length g.rc, .slice g.sa g.slots.length g.sc, .slice g.ta g.talks.length g.tc, .slice g.wa g.wishes.length g.wc, .slice g.ba g.bans.length g.bc] ∧ w.heap.size + 6 ≤ wr.heap.size ∧ Below w.heap.size w wr)
   case atStart => exact ⟨0, rfl, by omega, rfl, hM0, hM1, hM2, hM3, hF, hX, hz, hb⟩
   case round =>
    clear hM0 hM1 hM2 hM3 hF hX hz hb
    obtain ⟨k, rfl, hk, hgk, hM0, hM1, hM2, hM3, hF, hX, hz, hb⟩ := hrel
    by_cases hlt : k < g.slots.length
    ·
     obtain ⟨b, off, ha, c0, c1, c2⟩ := (HG.out _ hb).slots.sltC hlt
     have Hsu := Lib.hid (idxTo_succ (ks := (g.slots.map (·.1))) (k := k) (by simpa using hlt))
     rw [List.getElem_map] at Hsu
     generalize g.slots[k] = x at *
     have Ha := Lib.hid ha
     rw [ha]
     clear ha
     obtain ⟨x1, x2, x3⟩ := x
     simp only at c0 c1 c2 Hsu
     go_upto_region 10 with (fail)
     have kM0 := hM0.alloc (.cells #[.string x1, .int .i64 x2, .int .i64 x3] 56)
     have kM1 := hM1.alloc (.cells #[.string x1, .int .i64 x2, .int .i64 x3] 56)
     have kM2 := hM2.alloc (.cells #[.string x1, .int .i64 x2, .int .i64 x3] 56)
     have kM3 := hM3.alloc (.cells #[.string x1, .int .i64 x2, .int .i64 x3] 56)
     have kF := hF.alloc (.cells #[.string x1, .int .i64 x2, .int .i64 x3] 56)
     have kX := hX.alloc (.cells #[.string x1, .int .i64 x2, .int .i64 x3] 56)
     have kE := Box.new wr 56 #[.string x1, .int .i64 x2, .int .i64 x3]
     have kb := hb.alloc hb.size (.cells #[.string x1, .int .i64 x2, .int .i64 x3] 56)
     have kz : w.heap.size + 6 ≤ (wr.alloc (.cells #[.string x1, .int .i64 x2, .int .i64 x3] 56)).heap.size := by simp; omega
     clear hM0 hM1 hM2 hM3 hF hX hz hb c0 c1 c2
     generalize wr.alloc (.cells #[.string x1, .int .i64 x2, .int .i64 x3] 56) = w2 at *
     generalize wr.heap.size = n2 at *
     have hf0 := kF.cell 6
     simp at hf0
     have he0 := kE.cell 0
     simp at he0
     refine wp_regionF (S := (fun wx => wx.cell? ⟨w.heap.size + 1 + 1 + 1 + 1 + 1, 6, none⟩ = some (.map (some (w.heap.size + 1 + 1))) ∧ wx.cell? ⟨n2, 0, none⟩ = some (.string x1))) 7 (by kernel_rfl) ?hS (fun hHeld => ?_)
     case hS => exact ⟨hf0, he0⟩
     refine rtakeF (i := 0) (d := (some 43)) (v := ?_) (n := 40) rfl (by kernel_rfl) (by kernel_rfl) (by kernel_rfl) (by kernel_rfl) (by kernel_rfl) (by kernel_rfl) (fun _ _ _ h => h) (by kernel_rfl) (by assumption) ?_ ?_
     rotate_left 1
     ·
      (intro wI hSI; (try dsimp only at hSI); go_simp; (try with_reducible rfl))
     simp only [Act.put, lsetA, lsetZ, lsetS]
     refine rtakeF (i := 1) (d := (some 44)) (v := ?_) (n := 40) rfl (by kernel_rfl) (by kernel_rfl) (by kernel_rfl) (by kernel_rfl) (by kernel_rfl) (by kernel_rfl) (fun _ _ _ h => h) (by kernel_rfl) (by assumption) ?_ ?_
     rotate_left 1
     ·
      (intro wI hSI; (try dsimp only at hSI); go_simp; (try with_reducible rfl))
     simp only [Act.put, lsetA, lsetZ, lsetS]
     refine rtakeF (i := 2) (d := (some 45)) (v := ?_) (n := 40) rfl (by kernel_rfl) (by kernel_rfl) (by kernel_rfl) (by kernel_rfl) (by kernel_rfl) (by kernel_rfl) (fun _ _ _ h => h) (by kernel_rfl) (by assumption) ?_ ?_
     rotate_left 1
     ·
      (intro wI hSI; (try dsimp only at hSI); go_simp; (try with_reducible rfl))
     simp only [Act.put, lsetA, lsetZ, lsetS]
     refine rtakeF (i := 3) (d := (some 46)) (v := ?_) (n := 40) rfl (by kernel_rfl) (by kernel_rfl) (by kernel_rfl) (by kernel_rfl) (by kernel_rfl) (by kernel_rfl) (fun _ _ _ h => h) (by kernel_rfl) (by assumption) ?_ ?_
     rotate_left 1
     ·
      (intro wI hSI; (try dsimp only at hSI); go_simp; (try with_reducible rfl))
     simp only [Act.put, lsetA, lsetZ, lsetS]
     refine rtakeF (i := 4) (d := (some 47)) (v := ?_) (n := 40) rfl (by kernel_rfl) (by kernel_rfl) (by kernel_rfl) (by kernel_rfl) (by kernel_rfl) (by kernel_rfl) (fun _ _ _ h => h) (by kernel_rfl) (by assumption) ?_ ?_
     rotate_left 1
     ·
      (intro wI hSI; (try dsimp only at hSI); go_simp; (try with_reducible rfl))
     simp only [Act.put, lsetA, lsetZ, lsetS]
     refine rtakeF (i := 5) (d := (some 48)) (v := ?_) (n := 40) rfl (by kernel_rfl) (by kernel_rfl) (by kernel_rfl) (by kernel_rfl) (by kernel_rfl) (by kernel_rfl) (fun _ _ _ h => h) (by kernel_rfl) (by assumption) ?_ ?_
     rotate_left 1
     ·
      (intro wI hSI; (try dsimp only at hSI); go_simp; (try with_reducible rfl))
     simp only [Act.put, lsetA, lsetZ, lsetS]
     refine rtakeF (i := 6) (d := (some 49)) (v := ?_) (n := 40) rfl (by kernel_rfl) (by kernel_rfl) (by kernel_rfl) (by kernel_rfl) (by kernel_rfl) (by kernel_rfl) (fun _ _ _ h => h) (by kernel_rfl) (by assumption) ?_ ?_
     rotate_left 1
     ·
      (intro wI hSI; (try dsimp only at hSI); go_simp; (try with_reducible rfl))
     simp only [Act.put, lsetA, lsetZ, lsetS]
     refine rcallF (i := 7) (d := none) (by kernel_rfl) rfl (by kernel_rfl) (fun K hK => ?_)
     refine step_mapUpdate_box (by rfl) _ _ _ 140 (by rfl) 9 3 Tryz.underlying140 Tryz.underlying9 (w.heap.size + 1 + 1) _ (by rfl) kM1.drew x1 (by rfl) (.int .i64 (k : Nat)) (by rfl) ?_; intro w5 hM5 hg5 hs5
     refine hK.out undef _ (.inl rfl) (fun _ => ?_)
     clear hK K
     simp only [Act.put, lsetA, lsetZ, lsetS]
     refine wpAnyF_done (by kernel_rfl) ?_ _
     have qM0 := kM0.drew.grown hg5 (fun e => by have := Option.some.inj e; omega)
     have qM2 := kM2.drew.grown hg5 (fun e => by have := Option.some.inj e; omega)
     have qM3 := kM3.drew.grown hg5 (fun e => by have := Option.some.inj e; omega)
     have qF := kF.drew.grown hg5 (fun e => by have := Option.some.inj e; omega)
     have qX := kX.drew.grown hg5 (fun e => by have := Option.some.inj e; omega)
     have qz : w.heap.size + 6 ≤ w5.heap.size := by rw [hs5]; exact kz
     have qb : Below w.heap.size w w5 := kb.drew.grown hg5 (by show w.heap.size ≤ w2.heap.size; omega) (fun j hj => by have := Option.some.inj hj; omega)
     rw [← Hsu.out] at hM5
     clear kM0 kM1 kM2 kM3 kF kX kE kb kz hg5 hHeld hf0 he0 hs5
     go_wp2_with fail
     rw [← Ha.out]
     go_roundg (g.slots.length - (k + 1))
     case measure => have := hgk.out; omega
     case rel => exact ⟨k + 1, by go_num, by omega, rfl, qM0, hM5, qM2, qM3, qF, qX, qz, qb⟩
    ·
     obtain rfl : k = g.slots.length := by omega
     have hM1 : MBox wr (w.heap.size + 1 + 1) (idxL (g.slots.map (·.1))) := by have h := hM1; rw [show g.slots.length = (g.slots.map (·.1)).length by simp] at h; exact h
     clear hgk
     have hX_l := hX.lt; have hX_0 := hX.cell 0; have hX_1 := hX.cell 1; have hX_2 := hX.cell 2; have hX_3 := hX.cell 3; have hX_4 := hX.cell 4; simp at hX_0 hX_1 hX_2 hX_3 hX_4
     go_wp2_with fail
     clear hX_l hX_0 hX_1 hX_2 hX_3 hX_4
     go_loopg [54] g.talks.length (fun gk iv wr => ∃ k : Nat, iv = .int .i64 k ∧ k ≤ g.talks.length ∧ Hid (gk = g.talks.length - k) ∧ MBox wr (w.heap.size + 1) (idxL (g.rooms.map (·.1))) ∧ MBox wr (w.heap.size + 1 + 1) (idxL (g.slots.map (·.1))) ∧ MBox wr (w.heap.size + 1 + 1 + 1) (idxTo (g.talks.map (·.paper)) k) ∧ GBox enc2 ok2 wr (w.heap.size + 1 + 1 + 1 + 1) (banTo g.bans 0) ∧ Box wr (w.heap.size + 1 + 1 + 1 + 1 + 1) 143 #[.slice g.ra g.rooms.length g.rc, .slice g.sa g.slots.length g.sc, .slice g.ta g.talks.length g.tc, .slice g.wa g.wishes.length g.wc, .slice g.ba g.bans.length g.bc, .map (some (w.heap.size + 1)), .map (some (w.heap.size + 1 + 1)), .map (some (w.heap.size + 1 + 1 + 1)), .map (some (w.heap.size + 1 + 1 + 1 + 1))] ∧ Box wr w.heap.size 32 #[.slice g.ra g.rooms.length g.rc, .slice g.sa g.slots.length g.sc, .slice g.ta g.talks.length g.tc, .slice g.wa g.wishes.length g.wc, .slice g.ba g.bans.length g.bc] ∧ w.heap.size + 6 ≤ wr.heap.size ∧ Below w.heap.size w wr)
     case atStart => exact ⟨0, rfl, by omega, rfl, hM0, hM1, hM2, hM3, hF, hX, hz, hb⟩
     case round =>
      clear hM0 hM1 hM2 hM3 hF hX hz hb
      obtain ⟨k, rfl, hk, hgk, hM0, hM1, hM2, hM3, hF, hX, hz, hb⟩ := hrel
      by_cases hlt : k < g.talks.length
      ·
       obtain ⟨b, off, ha, c0, c1, c2, c3⟩ := (HG.out _ hb).talks.tlkC hlt
       have Hsu := Lib.hid (idxTo_succ (ks := (g.talks.map (·.paper))) (k := k) (by simpa using hlt))
       rw [List.getElem_map] at Hsu
       generalize g.talks[k] = x at *
       have Ha := Lib.hid ha
       rw [ha]
       clear ha
       obtain ⟨x1, x2, x3, x4, x5, x6, x7, x8⟩ := x
       simp only at c0 c1 c2 c3 Hsu
       go_upto_region 15 with (fail)
       have kM0 := hM0.alloc (.cells #[.string x1, .slice x5 x2.length x6, .slice x7 x3.length x8, .int .i64 x4] 60)
       have kM1 := hM1.alloc (.cells #[.string x1, .slice x5 x2.length x6, .slice x7 x3.length x8, .int .i64 x4] 60)
       have kM2 := hM2.alloc (.cells #[.string x1, .slice x5 x2.length x6, .slice x7 x3.length x8, .int .i64 x4] 60)
       have kM3 := hM3.alloc (.cells #[.string x1, .slice x5 x2.length x6, .slice x7 x3.length x8, .int .i64 x4] 60)
       have kF := hF.alloc (.cells #[.string x1, .slice x5 x2.length x6, .slice x7 x3.length x8, .int .i64 x4] 60)
       have kX := hX.alloc (.cells #[.string x1, .slice x5 x2.length x6, .slice x7 x3.length x8, .int .i64 x4] 60)
       have kE := Box.new wr 60 #[.string x1, .slice x5 x2.length x6, .slice x7 x3.length x8, .int .i64 x4]
       have kb := hb.alloc hb.size (.cells #[.string x1, .slice x5 x2.length x6, .slice x7 x3.length x8, .int .i64 x4] 60)
       have kz : w.heap.size + 6 ≤ (wr.alloc (.cells #[.string x1, .slice x5 x2.length x6, .slice x7 x3.length x8, .int .i64 x4] 60)).heap.size := by simp; omega
       clear hM0 hM1 hM2 hM3 hF hX hz hb c0 c1 c2 c3
       generalize wr.alloc (.cells #[.string x1, .slice x5 x2.length x6, .slice x7 x3.length x8, .int .i64 x4] 60) = w2 at *
       generalize wr.heap.size = n2 at *
       have hf0 := kF.cell 7
       simp at hf0
       have he0 := kE.cell 0
       simp at he0
       refine wp_regionF (S := (fun wx => wx.cell? ⟨w.heap.size + 1 + 1 + 1 + 1 + 1, 7, none⟩ = some (.map (some (w.heap.size + 1 + 1 + 1))) ∧ wx.cell? ⟨n2, 0, none⟩ = some (.string x1))) 7 (by kernel_rfl) ?hS (fun hHeld => ?_)
       case hS => exact ⟨hf0, he0⟩
       refine rtakeF (i := 0) (d := (some 59)) (v := ?_) (n := 40) rfl (by kernel_rfl) (by kernel_rfl) (by kernel_rfl) (by kernel_rfl) (by kernel_rfl) (by kernel_rfl) (fun _ _ _ h => h) (by kernel_rfl) (by assumption) ?_ ?_
       rotate_left 1
       ·
        (intro wI hSI; (try dsimp only at hSI); go_simp; (try with_reducible rfl))
       simp only [Act.put, lsetA, lsetZ, lsetS]
       refine rtakeF (i := 1) (d := (some 60)) (v := ?_) (n := 40) rfl (by kernel_rfl) (by kernel_rfl) (by kernel_rfl) (by kernel_rfl) (by kernel_rfl) (by kernel_rfl) (fun _ _ _ h => h) (by kernel_rfl) (by assumption) ?_ ?_
       rotate_left 1
       ·
        (intro wI hSI; (try dsimp only at hSI); go_simp; (try with_reducible rfl))
       simp only [Act.put, lsetA, lsetZ, lsetS]
       refine rtakeF (i := 2) (d := (some 61)) (v := ?_) (n := 40) rfl (by kernel_rfl) (by kernel_rfl) (by kernel_rfl) (by kernel_rfl) (by kernel_rfl) (by kernel_rfl) (fun _ _ _ h => h) (by kernel_rfl) (by assumption) ?_ ?_
       rotate_left 1
       ·
        (intro wI hSI; (try dsimp only at hSI); go_simp; (try with_reducible rfl))
       simp only [Act.put, lsetA, lsetZ, lsetS]
       refine rtakeF (i := 3) (d := (some 62)) (v := ?_) (n := 40) rfl (by kernel_rfl) (by kernel_rfl) (by kernel_rfl) (by kernel_rfl) (by kernel_rfl) (by kernel_rfl) (fun _ _ _ h => h) (by kernel_rfl) (by assumption) ?_ ?_
       rotate_left 1
       ·
        (intro wI hSI; (try dsimp only at hSI); go_simp; (try with_reducible rfl))
       simp only [Act.put, lsetA, lsetZ, lsetS]
       refine rtakeF (i := 4) (d := (some 63)) (v := ?_) (n := 40) rfl (by kernel_rfl) (by kernel_rfl) (by kernel_rfl) (by kernel_rfl) (by kernel_rfl) (by kernel_rfl) (fun _ _ _ h => h) (by kernel_rfl) (by assumption) ?_ ?_
       rotate_left 1
       ·
        (intro wI hSI; (try dsimp only at hSI); go_simp; (try with_reducible rfl))
       simp only [Act.put, lsetA, lsetZ, lsetS]
       refine rtakeF (i := 5) (d := (some 64)) (v := ?_) (n := 40) rfl (by kernel_rfl) (by kernel_rfl) (by kernel_rfl) (by kernel_rfl) (by kernel_rfl) (by kernel_rfl) (fun _ _ _ h => h) (by kernel_rfl) (by assumption) ?_ ?_
       rotate_left 1
       ·
        (intro wI hSI; (try dsimp only at hSI); go_simp; (try with_reducible rfl))
       simp only [Act.put, lsetA, lsetZ, lsetS]
       refine rtakeF (i := 6) (d := (some 65)) (v := ?_) (n := 40) rfl (by kernel_rfl) (by kernel_rfl) (by kernel_rfl) (by kernel_rfl) (by kernel_rfl) (by kernel_rfl) (fun _ _ _ h => h) (by kernel_rfl) (by assumption) ?_ ?_
       rotate_left 1
       ·
        (intro wI hSI; (try dsimp only at hSI); go_simp; (try with_reducible rfl))
       simp only [Act.put, lsetA, lsetZ, lsetS]
       refine rcallF (i := 7) (d := none) (by kernel_rfl) rfl (by kernel_rfl) (fun K hK => ?_)
       refine step_mapUpdate_box (by rfl) _ _ _ 140 (by rfl) 9 3 Tryz.underlying140 Tryz.underlying9 (w.heap.size + 1 + 1 + 1) _ (by rfl) kM2.drew x1 (by rfl) (.int .i64 (k : Nat)) (by rfl) ?_; intro w5 hM5 hg5 hs5
       refine hK.out undef _ (.inl rfl) (fun _ => ?_)
       clear hK K
       simp only [Act.put, lsetA, lsetZ, lsetS]
       refine wpAnyF_done (by kernel_rfl) ?_ _
       have qM0 := kM0.drew.grown hg5 (fun e => by have := Option.some.inj e; omega)
       have qM1 := kM1.drew.grown hg5 (fun e => by have := Option.some.inj e; omega)
       have qM3 := kM3.drew.grown hg5 (fun e => by have := Option.some.inj e; omega)
       have qF := kF.drew.grown hg5 (fun e => by have := Option.some.inj e; omega)
       have qX := kX.drew.grown hg5 (fun e => by have := Option.some.inj e; omega)
       have qz : w.heap.size + 6 ≤ w5.heap.size := by rw [hs5]; exact kz
       have qb : Below w.heap.size w w5 := kb.drew.grown hg5 (by show w.heap.size ≤ w2.heap.size; omega) (fun j hj => by have := Option.some.inj hj; omega)
       rw [← Hsu.out] at hM5
       clear kM0 kM1 kM2 kM3 kF kX kE kb kz hg5 hHeld hf0 he0 hs5
       go_wp2_with fail
       rw [← Ha.out]
       go_roundg (g.talks.length - (k + 1))
       case measure => have := hgk.out; omega
       case rel => exact ⟨k + 1, by go_num, by omega, rfl, qM0, qM1, hM5, qM3, qF, qX, qz, qb⟩
      ·
       obtain rfl : k = g.talks.length := by omega
       have hM2 : MBox wr (w.heap.size + 1 + 1 + 1) (idxL (g.talks.map (·.paper))) := by have h := hM2; rw [show g.talks.length = (g.talks.map (·.paper)).length by simp] at h; exact h
       clear hgk
       have hX_l := hX.lt; have hX_0 := hX.cell 0; have hX_1 := hX.cell 1; have hX_2 := hX.cell 2; have hX_3 := hX.cell 3; have hX_4 := hX.cell 4; simp at hX_0 hX_1 hX_2 hX_3 hX_4
       go_wp2_with fail
       clear hX_l hX_0 hX_1 hX_2 hX_3 hX_4
       go_loopg [70] g.bans.length (fun gk iv wr => ∃ k : Nat, iv = .int .i64 k ∧ k ≤ g.bans.length ∧ Hid (gk = g.bans.length - k) ∧ MBox wr (w.heap.size + 1) (idxL (g.rooms.map (·.1))) ∧ MBox wr (w.heap.size + 1 + 1) (idxL (g.slots.map (·.1))) ∧ MBox wr (w.heap.size + 1 + 1 + 1) (idxL (g.talks.map (·.paper))) ∧ GBox enc2 ok2 wr (w.heap.size + 1 + 1 + 1 + 1) (banTo g.bans k) ∧ Box wr (w.heap.size + 1 + 1 + 1 + 1 + 1) 143 #[.slice g.ra g.rooms.length g.rc, .slice g.sa g.slots.length g.sc, .slice g.ta g.talks.length g.tc, .slice g.wa g.wishes.length g.wc, .slice g.ba g.bans.length g.bc, .map (some (w.heap.size + 1)), .map (some (w.heap.size + 1 + 1)), .map (some (w.heap.size + 1 + 1 + 1)), .map (some (w.heap.size + 1 + 1 + 1 + 1))] ∧ Box wr w.heap.size 32 #[.slice g.ra g.rooms.length g.rc, .slice g.sa g.slots.length g.sc, .slice g.ta g.talks.length g.tc, .slice g.wa g.wishes.length g.wc, .slice g.ba g.bans.length g.bc] ∧ w.heap.size + 6 ≤ wr.heap.size ∧ Below w.heap.size w wr)
       case atStart => exact ⟨0, rfl, by omega, rfl, hM0, hM1, hM2, hM3, hF, hX, hz, hb⟩
       case round =>
        clear hM0 hM1 hM2 hM3 hF hX hz hb
        obtain ⟨k, rfl, hk, hgk, hM0, hM1, hM2, hM3, hF, hX, hz, hb⟩ := hrel
        by_cases hlt : k < g.bans.length
        ·
         obtain ⟨b, off, ha, c0, c1⟩ := (HG.out _ hb).bans.banC hlt
         have Hsu := Lib.hid (banTo_succ hlt)
         have hok := HZM.out.ban _ (List.getElem_mem hlt)
         generalize g.bans[k] = x at *
         have Ha := Lib.hid ha
         rw [ha]
         clear ha
         obtain ⟨x1, x2⟩ := x
         simp only at c0 c1 Hsu hok
         go_upto_region 20 with (fail)
         have kM0 := hM0.alloc (.cells #[.string x1, .string x2] 64)
         have kM1 := hM1.alloc (.cells #[.string x1, .string x2] 64)
         have kM2 := hM2.alloc (.cells #[.string x1, .string x2] 64)
         have kM3 := hM3.alloc (.cells #[.string x1, .string x2] 64)
         have kF := hF.alloc (.cells #[.string x1, .string x2] 64)
         have kX := hX.alloc (.cells #[.string x1, .string x2] 64)
         have kE := Box.new wr 64 #[.string x1, .string x2]
         have kb := hb.alloc hb.size (.cells #[.string x1, .string x2] 64)
         have kz : w.heap.size + 6 ≤ (wr.alloc (.cells #[.string x1, .string x2] 64)).heap.size := by simp; omega
         clear hM0 hM1 hM2 hM3 hF hX hz hb c0 c1
         generalize wr.alloc (.cells #[.string x1, .string x2] 64) = w2 at *
         generalize wr.heap.size = n2 at *
         have hf0 := kF.cell 8
         simp at hf0
         have he0 := kE.cell 0
         have he1 := kE.cell 1
         simp at he0 he1
         refine wp_regionF (S := (fun wx => wx.cell? ⟨w.heap.size + 1 + 1 + 1 + 1 + 1, 8, none⟩ = some (.map (some (w.heap.size + 1 + 1 + 1 + 1))) ∧ wx.cell? ⟨n2, 0, none⟩ = some (.string x1) ∧ wx.cell? ⟨n2, 1, none⟩ = some (.string x2))) 5 (by kernel_rfl) ?hS (fun hHeld => ?_)
         case hS => exact ⟨hf0, he0, he1⟩
         refine rtakeF (i := 0) (d := (some 74)) (v := ?_) (n := 40) rfl (by kernel_rfl) (by kernel_rfl) (by kernel_rfl) (by kernel_rfl) (by kernel_rfl) (by kernel_rfl) (fun _ _ _ h => h) (by kernel_rfl) (by assumption) ?_ ?_
         rotate_left 1
         ·
          (intro wI hSI; (try dsimp only at hSI); go_simp; (try with_reducible rfl))
         simp only [Act.put, lsetA, lsetZ, lsetS]
         refine rtakeF (i := 1) (d := (some 75)) (v := ?_) (n := 40) rfl (by kernel_rfl) (by kernel_rfl) (by kernel_rfl) (by kernel_rfl) (by kernel_rfl) (by kernel_rfl) (fun _ _ _ h => h) (by kernel_rfl) (by assumption) ?_ ?_
         rotate_left 1
         ·
          (intro wI hSI; (try dsimp only at hSI); go_simp; (try with_reducible rfl))
         simp only [Act.put, lsetA, lsetZ, lsetS]
         refine rtakeF (i := 2) (d := (some 76)) (v := ?_) (n := 40) rfl (by kernel_rfl) (by kernel_rfl) (by kernel_rfl) (by kernel_rfl) (by kernel_rfl) (by kernel_rfl) (fun _ _ _ h => h) (by kernel_rfl) (by assumption) ?_ ?_
         rotate_left 1
         ·
          (intro wI hSI; (try dsimp only at hSI); go_simp; (try with_reducible rfl))
         simp only [Act.put, lsetA, lsetZ, lsetS]
         refine rtakeF (i := 3) (d := (some 77)) (v := ?_) (n := 40) rfl (by kernel_rfl) (by kernel_rfl) (by kernel_rfl) (by kernel_rfl) (by kernel_rfl) (by kernel_rfl) (fun _ _ _ h => h) (by kernel_rfl) (by assumption) ?_ ?_
         rotate_left 1
         ·
          (intro wI hSI; (try dsimp only at hSI); go_simp; (try with_reducible rfl))
         simp only [Act.put, lsetA, lsetZ, lsetS]
         refine rtakeF (i := 4) (d := (some 78)) (v := ?_) (n := 40) rfl (by kernel_rfl) (by kernel_rfl) (by kernel_rfl) (by kernel_rfl) (by kernel_rfl) (by kernel_rfl) (fun _ _ _ h => h) (by kernel_rfl) (by assumption) ?_ ?_
         rotate_left 1
         ·
          (intro wI hSI; (try dsimp only at hSI); go_simp; (try with_reducible rfl))
         simp only [Act.put, lsetA, lsetZ, lsetS]
         refine rcallF (i := 5) (d := none) (by kernel_rfl) rfl (by kernel_rfl) (fun K hK => ?_)
         refine step_mapUpdate_gbox (by rfl) _ _ _ 141 (by rfl) 64 4 Tryz.underlying141 keys2 (w.heap.size + 1 + 1 + 1 + 1) _ (by rfl) kM3.drew (x1, x2) ⟨by show x1.size ≤ _; have := hok.1; omega, by show x2.size ≤ _; have := hok.2; omega⟩ (by rfl) (.bool true) (by rfl) ?_; intro w5 hM5 hg5 hs5
         refine hK.out undef _ (.inl rfl) (fun _ => ?_)
         clear hK K
         simp only [Act.put, lsetA, lsetZ, lsetS]
         refine wpAnyF_done (by kernel_rfl) ?_ _
         have qM0 := kM0.drew.grown hg5 (fun e => by have := Option.some.inj e; omega)
         have qM1 := kM1.drew.grown hg5 (fun e => by have := Option.some.inj e; omega)
         have qM2 := kM2.drew.grown hg5 (fun e => by have := Option.some.inj e; omega)
         have qF := kF.drew.grown hg5 (fun e => by have := Option.some.inj e; omega)
         have qX := kX.drew.grown hg5 (fun e => by have := Option.some.inj e; omega)
         have qz : w.heap.size + 6 ≤ w5.heap.size := by rw [hs5]; exact kz
         have qb : Below w.heap.size w w5 := kb.drew.grown hg5 (by show w.heap.size ≤ w2.heap.size; omega) (fun j hj => by have := Option.some.inj hj; omega)
         rw [← Hsu.out] at hM5
         clear kM0 kM1 kM2 kM3 kF kX kE kb kz hg5 hHeld hf0 he0 hs5 he1
         go_wp2_with fail
         rw [← Ha.out]
         go_roundg (g.bans.length - (k + 1))
         case measure => have := hgk.out; omega
         case rel => exact ⟨k + 1, by go_num, by omega, rfl, qM0, qM1, qM2, hM5, qF, qX, qz, qb⟩
        ·
         obtain rfl : k = g.bans.length := by omega
         clear hgk
         go_wp2_with fail
         go_ret
         exact ⟨w.heap.size + 1 + 1 + 1 + 1 + 1, w.heap.size + 1, w.heap.size + 1 + 1, w.heap.size + 1 + 1 + 1, w.heap.size + 1 + 1 + 1 + 1, rfl, ⟨hF, hM0, hM1, hM2, hM3⟩, by omega, hb⟩
end Go.Proofs.YtldgphhiajhfhaaGreatDoor
