/- The reference's errors of grids, first part: keys, what has a key, papers that rise, talks. -/
import Derived.Test.YtldgphhiajhfhaaGreatDoorGridQ
namespace Go.Proofs.YtldgphhiajhfhaaGreatDoor
open Go.RowKit
set_option linter.unusedVariables false
set_option linter.unusedSimpArgs false

/-- ErrName or ErrOrder of a key after another one. -/
def kfN (i : Nat) (x y : ByteArray) : Int := if keyB x = false then 5 else if (decide (0 < i) && leB x y) = true then 7 else 0
set_option maxRecDepth 100000 in
set_option maxHeartbeats 4000000 in
theorem keyFault_any (i : Nat) (x y : ByteArray) (w : World) (hi : i ≤ 1000000) (hx : x.size ≤ 1000000) :
  Calls Tryz.prog 39 #[.int .i64 (i : Nat), .string x, .string y] w (Gives (.int .i64 (kfN i x y)) w) := by
 have HR : Hid (kfN i x y = if keyB x = false then 5 else if (decide (0 < i) && leB x y) = true then 7 else 0) := rfl
 generalize kfN i x y = R at *
 go_enter Tryz.func39, Tryz.ntmps39
 go_wp2_with fail
 refine (keyOf_any x _ (by omega)).mono ?_
 rintro e w1 ⟨rfl, hb1⟩
 cases hk : keyB x
 ·
  rw [hk] at HR
  have He : R = 5 := HR.out
  clear HR
  go_wp2_with fail
  go_ret
  exact ⟨by rw [He] <;> rfl, hb1⟩
 ·
  rw [hk] at HR
  go_upto_region 3 with (fail)
  go_cut [16] (fun v wx => v = .bool (decide (0 < i) && leB x y) ∧ ∃ n, wx = w1.drewN n)
  case first =>
   by_cases h0 : i = 0
   ·
    have hd : decide ((0 : Int) < (i : Int)) = false := by simp [h0]
    have hd1 : decide (0 < i) = false := by simp [h0]
    have Hd : Hid ((decide (0 < i) && leB x y) = false) := by show _ = _; simp [h0]
    clear h0 HR
    go_wp2_with fail
    go_meet
    exact ⟨by rw [Hd.out] <;> rfl, 0, rfl⟩
   ·
    have hd : decide ((0 : Int) < (i : Int)) = true := decide_eq_true (by omega)
    have hd2 : (0 : Int) < (i : Int) := by omega
    have hd1 : 0 < i := by omega
    have Hd : Hid ((decide (0 < i) && leB x y) = leB x y) := by show _ = _; rw [decide_eq_true (show 0 < i by omega)]; rfl
    clear h0 HR
    go_wp2_with fail
    go_meet
    exact ⟨by rw [Hd.out] <;> rfl, 0, rfl⟩
  case rest =>
   obtain ⟨hv, n, rfl⟩ := hcut
   rw [hv]
   cases hb : (decide (0 < i) && leB x y)
   ·
    rw [hb] at HR
    have He : Hid (R = 0) := HR.out
    clear HR hb
    go_wp2_with fail
    go_ret
    exact ⟨by rw [He.out] <;> rfl, below_drewN hb1 _⟩
   ·
    rw [hb] at HR
    have He : Hid (R = 7) := HR.out
    clear HR hb
    go_wp2_with fail
    go_ret
    exact ⟨by rw [He.out] <;> rfl, below_drewN hb1 _⟩

set_option maxRecDepth 100000 in
set_option maxHeartbeats 4000000 in
theorem talkOf_any (g : Grd) (key : ByteArray) (w : World) (hg : GRd w g) (hn : g.talks.length ≤ 1000000) :
  Calls Tryz.prog 71 #[g.agg, .string key] w (Gives (.tuple #[talkV g key, .bool (talkOf g key).isSome]) w) := by
 have hl := hg.talks
 have HN : Hid ((∀ j (hj : j < g.talks.length), j < g.talks.length → decide ((Tlk.paper g.talks[j]) = key) = false) → Value.tuple #[talkV g key, .bool (talkOf g key).isSome] = .tuple #[.agg #[.string ⟨#[]⟩, .slice none 0 0, .slice none 0 0, .int .i64 0], .bool false]) := fun h => by
  have e : talkOf g key = none := find_none h (Nat.le_refl _)
  simp only [talkV, talkOr, e, Option.getD, Option.isSome] <;> rfl
 have HF : Hid (∀ i (hi : i < g.talks.length), (∀ j (hj : j < g.talks.length), j < i → decide ((Tlk.paper g.talks[j]) = key) = false) → (Tlk.paper g.talks[i]) = key → Value.tuple #[talkV g key, .bool (talkOf g key).isSome] = .tuple #[Tlk.agg g.talks[i], .bool true]) := fun i hi h hk => by
  have e : talkOf g key = some g.talks[i] := find_at hi h (decide_eq_true hk)
  simp only [talkV, talkOr, e, Option.getD, Option.isSome] <;> rfl
 generalize Value.tuple #[talkV g key, .bool (talkOf g key).isSome] = R at *
 clear hg
 obtain ⟨rooms, slots, talks, wishes, bans, ra, rc, sa, sc, ta, tc, wa, wc, ba, bc⟩ := g
 simp only at hl hn HN HF
 have hX := Box.new w 32 #[.slice ra rooms.length rc, .slice sa slots.length sc, .slice ta talks.length tc, .slice wa wishes.length wc, .slice ba bans.length bc]
 have hY := Box.newAt (w.alloc (.cells #[.slice ra rooms.length rc, .slice sa slots.length sc, .slice ta talks.length tc, .slice wa wishes.length wc, .slice ba bans.length bc] 32)) (w.heap.size + 1) 60 #[.string ⟨#[]⟩, .slice none 0 0, .slice none 0 0, .int .i64 0] (by simp)
 have hX2 := hX.alloc (.cells #[.string ⟨#[]⟩, .slice none 0 0, .slice none 0 0, .int .i64 0] 60)
 have hb0 : Below w.heap.size w ((w.alloc (.cells #[.slice ra rooms.length rc, .slice sa slots.length sc, .slice ta talks.length tc, .slice wa wishes.length wc, .slice ba bans.length bc] 32)).alloc (.cells #[.string ⟨#[]⟩, .slice none 0 0, .slice none 0 0, .int .i64 0] 60)) := ((Below.refl _ _).alloc (Nat.le_refl _) _).alloc (by simp) _
 show Calls Tryz.prog 71 #[.agg #[.slice ra rooms.length rc, .slice sa slots.length sc, .slice ta talks.length tc, .slice wa wishes.length wc, .slice ba bans.length bc], .string key] w (Gives R w)
 go_enter Tryz.func71, Tryz.ntmps71
 have hX2_l := hX2.lt; have hX2_0 := hX2.cell 0; have hX2_1 := hX2.cell 1; have hX2_2 := hX2.cell 2; have hX2_3 := hX2.cell 3; have hX2_4 := hX2.cell 4; simp at hX2_0 hX2_1 hX2_2 hX2_3 hX2_4
 go_wp2_with fail
 clear hX2_l hX2_0 hX2_1 hX2_2 hX2_3 hX2_4
 clear hX hX2
 go_loopg [11] talks.length (fun gk iv wr => ∃ i : Nat, iv = .int .i64 i ∧ i ≤ talks.length ∧ Hid (gk = talks.length - i) ∧ Hid (∀ j (hj : j < talks.length), j < i → decide ((Tlk.paper talks[j]) = key) = false) ∧ Box wr (w.heap.size + 1) 60 #[.string ⟨#[]⟩, .slice none 0 0, .slice none 0 0, .int .i64 0] ∧ Below w.heap.size w wr)
 case atStart => exact ⟨0, rfl, by omega, rfl, fun j hj h => by omega, hY, hb0⟩
 case round =>
  clear hY hb0
  obtain ⟨k, rfl, hk, hgk, hf, hR, hb⟩ := hrel
  by_cases hlt : k < talks.length
  ·
   obtain ⟨b, off, ha, c0, c1, c2, c3⟩ := (hl.below hb).tlkC hlt
   have HF2 := Lib.hid (fun h => HF.out k hlt hf.out h)
   have Hst : Hid (¬ (Tlk.paper talks[k]) = key → ∀ j (hj : j < talks.length), j < k + 1 → decide ((Tlk.paper talks[j]) = key) = false) := fun h j hj hjk => by
    rcases Nat.lt_or_eq_of_le (Nat.le_of_lt_succ hjk) with h1 | rfl
    ·
     exact hf.out j hj h1
    ·
     exact decide_eq_false h
   generalize talks[k] = x at *
   obtain ⟨x1, x2, x3, x4, x5, x6, x7, x8⟩ := x
   simp only at c0 c1 c2 c3 HF2 Hst
   have hRl := hR.lt
   rw [ha]
   by_cases he : x1 = key
   ·
    have he1 := tl_eq he
    have HF3 := Lib.hid (HF2.out he)
    clear HF HN HF2 Hst hf he
    have hfin : Below w.heap.size w ((((((wr.setCell ⟨w.heap.size + 1, 0, none⟩ (.string x1)).setCell ⟨w.heap.size + 1, 1, none⟩ (.slice x5 x2.length x6)).setCell ⟨w.heap.size + 1, 2, none⟩ (.slice x7 x3.length x8)).setCell ⟨w.heap.size + 1, 3, none⟩ (.int .i64 x4)).alloc (.cells #[.string x1, .slice x5 x2.length x6, .slice x7 x3.length x8, .int .i64 x4] 60))) := (Below.alloc ((((hb.setCell (p := ⟨w.heap.size + 1, 0, none⟩) (by show w.heap.size ≤ w.heap.size + 1; omega) _).setCell (p := ⟨w.heap.size + 1, 1, none⟩) (by show w.heap.size ≤ w.heap.size + 1; omega) _).setCell (p := ⟨w.heap.size + 1, 2, none⟩) (by show w.heap.size ≤ w.heap.size + 1; omega) _).setCell (p := ⟨w.heap.size + 1, 3, none⟩) (by show w.heap.size ≤ w.heap.size + 1; omega) _) (Below.size ((((hb.setCell (p := ⟨w.heap.size + 1, 0, none⟩) (by show w.heap.size ≤ w.heap.size + 1; omega) _).setCell (p := ⟨w.heap.size + 1, 1, none⟩) (by show w.heap.size ≤ w.heap.size + 1; omega) _).setCell (p := ⟨w.heap.size + 1, 2, none⟩) (by show w.heap.size ≤ w.heap.size + 1; omega) _).setCell (p := ⟨w.heap.size + 1, 3, none⟩) (by show w.heap.size ≤ w.heap.size + 1; omega) _)) _)
    have hR2b := Box.new wr 60 #[.string x1, .slice x5 x2.length x6, .slice x7 x3.length x8, .int .i64 x4]
    have Hfin := Lib.hid hfin
    clear hfin
    have hR_l := hR.lt; have hR_0 := hR.cell 0; have hR_1 := hR.cell 1; have hR_2 := hR.cell 2; have hR_3 := hR.cell 3; simp at hR_0 hR_1 hR_2 hR_3
    have hR_f0 := hR.frozen 0; have hR_f1 := hR.frozen 1; have hR_f2 := hR.frozen 2; have hR_f3 := hR.frozen 3
    have hR2b_l := hR2b.lt; have hR2b_0 := hR2b.cell 0; have hR2b_1 := hR2b.cell 1; have hR2b_2 := hR2b.cell 2; have hR2b_3 := hR2b.cell 3; simp at hR2b_0 hR2b_1 hR2b_2 hR2b_3
    go_wp2_with fail
    refine bodyPost_ret (v := .tuple #[.agg #[.string x1, .slice x5 x2.length x6, .slice x7 x3.length x8, .int .i64 x4], .bool true]) (by simp only [results, Tryz.results71]; go_simp) rfl ?_
    exact ⟨by rw [HF3.out] <;> rfl, Hfin.out⟩
   ·
    have he1 := tl_ne he
    have Hst2 := Lib.hid (Hst.out he)
    clear HF2 Hst hf he
    go_wp2_with fail
    rw [← ha]
    go_roundg (talks.length - (k + 1))
    case measure => have := hgk.out; omega
    case rel => exact ⟨k + 1, by go_num, by omega, rfl, Hst2.out, hR.alloc _, hb.alloc hb.size _⟩
  ·
   have HN2 := Lib.hid (HN.out (fun j hj _ => hf.out j hj (by omega)))
   have hfin : Below w.heap.size w (((((wr.setCell ⟨w.heap.size + 1, 0, none⟩ (.string ⟨#[]⟩)).setCell ⟨w.heap.size + 1, 1, none⟩ (.slice none 0 0)).setCell ⟨w.heap.size + 1, 2, none⟩ (.slice none 0 0)).setCell ⟨w.heap.size + 1, 3, none⟩ (.int .i64 0))) := ((((hb.setCell (p := ⟨w.heap.size + 1, 0, none⟩) (by show w.heap.size ≤ w.heap.size + 1; omega) _).setCell (p := ⟨w.heap.size + 1, 1, none⟩) (by show w.heap.size ≤ w.heap.size + 1; omega) _).setCell (p := ⟨w.heap.size + 1, 2, none⟩) (by show w.heap.size ≤ w.heap.size + 1; omega) _).setCell (p := ⟨w.heap.size + 1, 3, none⟩) (by show w.heap.size ≤ w.heap.size + 1; omega) _)
   have Hfin := Lib.hid hfin
   clear hfin HN HF hf
   have hR_l := hR.lt; have hR_0 := hR.cell 0; have hR_1 := hR.cell 1; have hR_2 := hR.cell 2; have hR_3 := hR.cell 3; simp at hR_0 hR_1 hR_2 hR_3
   have hR_f0 := hR.frozen 0; have hR_f1 := hR.frozen 1; have hR_f2 := hR.frozen 2; have hR_f3 := hR.frozen 3
   go_wp2_with fail
   refine bodyPost_ret (v := .tuple #[.agg #[.string ⟨#[]⟩, .slice none 0 0, .slice none 0 0, .int .i64 0], .bool false]) (by simp only [results, Tryz.results71]; go_simp) rfl ?_
   exact ⟨by rw [HN2.out] <;> rfl, Hfin.out⟩

set_option maxRecDepth 100000 in
set_option maxHeartbeats 4000000 in
theorem slotOf_any (g : Grd) (key : ByteArray) (w : World) (hg : GRd w g) (hn : g.slots.length ≤ 1000000) :
  Calls Tryz.prog 68 #[g.agg, .string key] w (Gives (.tuple #[slotV g key, .bool (slotOf g key).isSome]) w) := by
 have hl := hg.slots
 have HN : Hid ((∀ j (hj : j < g.slots.length), j < g.slots.length → decide (((fun s : Slt => s.1) g.slots[j]) = key) = false) → Value.tuple #[slotV g key, .bool (slotOf g key).isSome] = .tuple #[.agg #[.string ⟨#[]⟩, .int .i64 0, .int .i64 0], .bool false]) := fun h => by
  have e : slotOf g key = none := find_none h (Nat.le_refl _)
  simp only [slotV, slotOr, e, Option.getD, Option.isSome] <;> rfl
 have HF : Hid (∀ i (hi : i < g.slots.length), (∀ j (hj : j < g.slots.length), j < i → decide (((fun s : Slt => s.1) g.slots[j]) = key) = false) → ((fun s : Slt => s.1) g.slots[i]) = key → Value.tuple #[slotV g key, .bool (slotOf g key).isSome] = .tuple #[sltV g.slots[i], .bool true]) := fun i hi h hk => by
  have e : slotOf g key = some g.slots[i] := find_at hi h (decide_eq_true hk)
  simp only [slotV, slotOr, e, Option.getD, Option.isSome] <;> rfl
 generalize Value.tuple #[slotV g key, .bool (slotOf g key).isSome] = R at *
 clear hg
 obtain ⟨rooms, slots, talks, wishes, bans, ra, rc, sa, sc, ta, tc, wa, wc, ba, bc⟩ := g
 simp only at hl hn HN HF
 have hX := Box.new w 32 #[.slice ra rooms.length rc, .slice sa slots.length sc, .slice ta talks.length tc, .slice wa wishes.length wc, .slice ba bans.length bc]
 have hY := Box.newAt (w.alloc (.cells #[.slice ra rooms.length rc, .slice sa slots.length sc, .slice ta talks.length tc, .slice wa wishes.length wc, .slice ba bans.length bc] 32)) (w.heap.size + 1) 56 #[.string ⟨#[]⟩, .int .i64 0, .int .i64 0] (by simp)
 have hX2 := hX.alloc (.cells #[.string ⟨#[]⟩, .int .i64 0, .int .i64 0] 56)
 have hb0 : Below w.heap.size w ((w.alloc (.cells #[.slice ra rooms.length rc, .slice sa slots.length sc, .slice ta talks.length tc, .slice wa wishes.length wc, .slice ba bans.length bc] 32)).alloc (.cells #[.string ⟨#[]⟩, .int .i64 0, .int .i64 0] 56)) := ((Below.refl _ _).alloc (Nat.le_refl _) _).alloc (by simp) _
 show Calls Tryz.prog 68 #[.agg #[.slice ra rooms.length rc, .slice sa slots.length sc, .slice ta talks.length tc, .slice wa wishes.length wc, .slice ba bans.length bc], .string key] w (Gives R w)
 go_enter Tryz.func68, Tryz.ntmps68
 have hX2_l := hX2.lt; have hX2_0 := hX2.cell 0; have hX2_1 := hX2.cell 1; have hX2_2 := hX2.cell 2; have hX2_3 := hX2.cell 3; have hX2_4 := hX2.cell 4; simp at hX2_0 hX2_1 hX2_2 hX2_3 hX2_4
 go_wp2_with fail
 clear hX2_l hX2_0 hX2_1 hX2_2 hX2_3 hX2_4
 clear hX hX2
 go_loopg [11] slots.length (fun gk iv wr => ∃ i : Nat, iv = .int .i64 i ∧ i ≤ slots.length ∧ Hid (gk = slots.length - i) ∧ Hid (∀ j (hj : j < slots.length), j < i → decide (((fun s : Slt => s.1) slots[j]) = key) = false) ∧ Box wr (w.heap.size + 1) 56 #[.string ⟨#[]⟩, .int .i64 0, .int .i64 0] ∧ Below w.heap.size w wr)
 case atStart => exact ⟨0, rfl, by omega, rfl, fun j hj h => by omega, hY, hb0⟩
 case round =>
  clear hY hb0
  obtain ⟨k, rfl, hk, hgk, hf, hR, hb⟩ := hrel
  by_cases hlt : k < slots.length
  ·
   obtain ⟨b, off, ha, c0, c1, c2⟩ := (hl.below hb).sltC hlt
   have HF2 := Lib.hid (fun h => HF.out k hlt hf.out h)
   have Hst : Hid (¬ ((fun s : Slt => s.1) slots[k]) = key → ∀ j (hj : j < slots.length), j < k + 1 → decide (((fun s : Slt => s.1) slots[j]) = key) = false) := fun h j hj hjk => by
    rcases Nat.lt_or_eq_of_le (Nat.le_of_lt_succ hjk) with h1 | rfl
    ·
     exact hf.out j hj h1
    ·
     exact decide_eq_false h
   generalize slots[k] = x at *
   obtain ⟨x1, x2, x3⟩ := x
   simp only at c0 c1 c2 HF2 Hst
   have hRl := hR.lt
   rw [ha]
   by_cases he : x1 = key
   ·
    have he1 := tl_eq he
    have HF3 := Lib.hid (HF2.out he)
    clear HF HN HF2 Hst hf he
    have hfin : Below w.heap.size w (((((wr.setCell ⟨w.heap.size + 1, 0, none⟩ (.string x1)).setCell ⟨w.heap.size + 1, 1, none⟩ (.int .i64 x2)).setCell ⟨w.heap.size + 1, 2, none⟩ (.int .i64 x3)).alloc (.cells #[.string x1, .int .i64 x2, .int .i64 x3] 56))) := (Below.alloc (((hb.setCell (p := ⟨w.heap.size + 1, 0, none⟩) (by show w.heap.size ≤ w.heap.size + 1; omega) _).setCell (p := ⟨w.heap.size + 1, 1, none⟩) (by show w.heap.size ≤ w.heap.size + 1; omega) _).setCell (p := ⟨w.heap.size + 1, 2, none⟩) (by show w.heap.size ≤ w.heap.size + 1; omega) _) (Below.size (((hb.setCell (p := ⟨w.heap.size + 1, 0, none⟩) (by show w.heap.size ≤ w.heap.size + 1; omega) _).setCell (p := ⟨w.heap.size + 1, 1, none⟩) (by show w.heap.size ≤ w.heap.size + 1; omega) _).setCell (p := ⟨w.heap.size + 1, 2, none⟩) (by show w.heap.size ≤ w.heap.size + 1; omega) _)) _)
    have hR2b := Box.new wr 56 #[.string x1, .int .i64 x2, .int .i64 x3]
    have Hfin := Lib.hid hfin
    clear hfin
    have hR_l := hR.lt; have hR_0 := hR.cell 0; have hR_1 := hR.cell 1; have hR_2 := hR.cell 2; simp at hR_0 hR_1 hR_2
    have hR_f0 := hR.frozen 0; have hR_f1 := hR.frozen 1; have hR_f2 := hR.frozen 2
    have hR2b_l := hR2b.lt; have hR2b_0 := hR2b.cell 0; have hR2b_1 := hR2b.cell 1; have hR2b_2 := hR2b.cell 2; simp at hR2b_0 hR2b_1 hR2b_2
    go_wp2_with fail
    refine bodyPost_ret (v := .tuple #[.agg #[.string x1, .int .i64 x2, .int .i64 x3], .bool true]) (by simp only [results, Tryz.results68]; go_simp) rfl ?_
    exact ⟨by rw [HF3.out] <;> rfl, Hfin.out⟩
   ·
    have he1 := tl_ne he
    have Hst2 := Lib.hid (Hst.out he)
    clear HF2 Hst hf he
    go_wp2_with fail
    rw [← ha]
    go_roundg (slots.length - (k + 1))
    case measure => have := hgk.out; omega
    case rel => exact ⟨k + 1, by go_num, by omega, rfl, Hst2.out, hR.alloc _, hb.alloc hb.size _⟩
  ·
   have HN2 := Lib.hid (HN.out (fun j hj _ => hf.out j hj (by omega)))
   have hfin : Below w.heap.size w ((((wr.setCell ⟨w.heap.size + 1, 0, none⟩ (.string ⟨#[]⟩)).setCell ⟨w.heap.size + 1, 1, none⟩ (.int .i64 0)).setCell ⟨w.heap.size + 1, 2, none⟩ (.int .i64 0))) := (((hb.setCell (p := ⟨w.heap.size + 1, 0, none⟩) (by show w.heap.size ≤ w.heap.size + 1; omega) _).setCell (p := ⟨w.heap.size + 1, 1, none⟩) (by show w.heap.size ≤ w.heap.size + 1; omega) _).setCell (p := ⟨w.heap.size + 1, 2, none⟩) (by show w.heap.size ≤ w.heap.size + 1; omega) _)
   have Hfin := Lib.hid hfin
   clear hfin HN HF hf
   have hR_l := hR.lt; have hR_0 := hR.cell 0; have hR_1 := hR.cell 1; have hR_2 := hR.cell 2; simp at hR_0 hR_1 hR_2
   have hR_f0 := hR.frozen 0; have hR_f1 := hR.frozen 1; have hR_f2 := hR.frozen 2
   go_wp2_with fail
   refine bodyPost_ret (v := .tuple #[.agg #[.string ⟨#[]⟩, .int .i64 0, .int .i64 0], .bool false]) (by simp only [results, Tryz.results68]; go_simp) rfl ?_
   exact ⟨by rw [HN2.out] <;> rfl, Hfin.out⟩

set_option maxRecDepth 100000 in
set_option maxHeartbeats 4000000 in
theorem roomOf_any (g : Grd) (key : ByteArray) (w : World) (hg : GRd w g) (hn : g.rooms.length ≤ 1000000) :
  Calls Tryz.prog 69 #[g.agg, .string key] w (Gives (.tuple #[roomV g key, .bool (roomOf g key).isSome]) w) := by
 have hl := hg.rooms
 have HN : Hid ((∀ j (hj : j < g.rooms.length), j < g.rooms.length → decide (((fun s : Rom => s.1) g.rooms[j]) = key) = false) → Value.tuple #[roomV g key, .bool (roomOf g key).isSome] = .tuple #[.agg #[.string ⟨#[]⟩, .int .i64 0], .bool false]) := fun h => by
  have e : roomOf g key = none := find_none h (Nat.le_refl _)
  simp only [roomV, e, Option.getD, Option.isSome] <;> rfl
 have HF : Hid (∀ i (hi : i < g.rooms.length), (∀ j (hj : j < g.rooms.length), j < i → decide (((fun s : Rom => s.1) g.rooms[j]) = key) = false) → ((fun s : Rom => s.1) g.rooms[i]) = key → Value.tuple #[roomV g key, .bool (roomOf g key).isSome] = .tuple #[romV g.rooms[i], .bool true]) := fun i hi h hk => by
  have e : roomOf g key = some g.rooms[i] := find_at hi h (decide_eq_true hk)
  simp only [roomV, e, Option.getD, Option.isSome] <;> rfl
 generalize Value.tuple #[roomV g key, .bool (roomOf g key).isSome] = R at *
 clear hg
 obtain ⟨rooms, slots, talks, wishes, bans, ra, rc, sa, sc, ta, tc, wa, wc, ba, bc⟩ := g
 simp only at hl hn HN HF
 have hX := Box.new w 32 #[.slice ra rooms.length rc, .slice sa slots.length sc, .slice ta talks.length tc, .slice wa wishes.length wc, .slice ba bans.length bc]
 have hY := Box.newAt (w.alloc (.cells #[.slice ra rooms.length rc, .slice sa slots.length sc, .slice ta talks.length tc, .slice wa wishes.length wc, .slice ba bans.length bc] 32)) (w.heap.size + 1) 54 #[.string ⟨#[]⟩, .int .i64 0] (by simp)
 have hX2 := hX.alloc (.cells #[.string ⟨#[]⟩, .int .i64 0] 54)
 have hb0 : Below w.heap.size w ((w.alloc (.cells #[.slice ra rooms.length rc, .slice sa slots.length sc, .slice ta talks.length tc, .slice wa wishes.length wc, .slice ba bans.length bc] 32)).alloc (.cells #[.string ⟨#[]⟩, .int .i64 0] 54)) := ((Below.refl _ _).alloc (Nat.le_refl _) _).alloc (by simp) _
 show Calls Tryz.prog 69 #[.agg #[.slice ra rooms.length rc, .slice sa slots.length sc, .slice ta talks.length tc, .slice wa wishes.length wc, .slice ba bans.length bc], .string key] w (Gives R w)
 go_enter Tryz.func69, Tryz.ntmps69
 have hX2_l := hX2.lt; have hX2_0 := hX2.cell 0; have hX2_1 := hX2.cell 1; have hX2_2 := hX2.cell 2; have hX2_3 := hX2.cell 3; have hX2_4 := hX2.cell 4; simp at hX2_0 hX2_1 hX2_2 hX2_3 hX2_4
 go_wp2_with fail
 clear hX2_l hX2_0 hX2_1 hX2_2 hX2_3 hX2_4
 clear hX hX2
 go_loopg [11] rooms.length (fun gk iv wr => ∃ i : Nat, iv = .int .i64 i ∧ i ≤ rooms.length ∧ Hid (gk = rooms.length - i) ∧ Hid (∀ j (hj : j < rooms.length), j < i → decide (((fun s : Rom => s.1) rooms[j]) = key) = false) ∧ Box wr (w.heap.size + 1) 54 #[.string ⟨#[]⟩, .int .i64 0] ∧ Below w.heap.size w wr)
 case atStart => exact ⟨0, rfl, by omega, rfl, fun j hj h => by omega, hY, hb0⟩
 case round =>
  clear hY hb0
  obtain ⟨k, rfl, hk, hgk, hf, hR, hb⟩ := hrel
  by_cases hlt : k < rooms.length
  ·
   obtain ⟨b, off, ha, c0, c1⟩ := (hl.below hb).romC hlt
   have HF2 := Lib.hid (fun h => HF.out k hlt hf.out h)
   have Hst : Hid (¬ ((fun s : Rom => s.1) rooms[k]) = key → ∀ j (hj : j < rooms.length), j < k + 1 → decide (((fun s : Rom => s.1) rooms[j]) = key) = false) := fun h j hj hjk => by
    rcases Nat.lt_or_eq_of_le (Nat.le_of_lt_succ hjk) with h1 | rfl
    ·
     exact hf.out j hj h1
    ·
     exact decide_eq_false h
   generalize rooms[k] = x at *
   obtain ⟨x1, x2⟩ := x
   simp only at c0 c1 HF2 Hst
   have hRl := hR.lt
   rw [ha]
   by_cases he : x1 = key
   ·
    have he1 := tl_eq he
    have HF3 := Lib.hid (HF2.out he)
    clear HF HN HF2 Hst hf he
    have hfin : Below w.heap.size w ((((wr.setCell ⟨w.heap.size + 1, 0, none⟩ (.string x1)).setCell ⟨w.heap.size + 1, 1, none⟩ (.int .i64 x2)).alloc (.cells #[.string x1, .int .i64 x2] 54))) := (Below.alloc ((hb.setCell (p := ⟨w.heap.size + 1, 0, none⟩) (by show w.heap.size ≤ w.heap.size + 1; omega) _).setCell (p := ⟨w.heap.size + 1, 1, none⟩) (by show w.heap.size ≤ w.heap.size + 1; omega) _) (Below.size ((hb.setCell (p := ⟨w.heap.size + 1, 0, none⟩) (by show w.heap.size ≤ w.heap.size + 1; omega) _).setCell (p := ⟨w.heap.size + 1, 1, none⟩) (by show w.heap.size ≤ w.heap.size + 1; omega) _)) _)
    have hR2b := Box.new wr 54 #[.string x1, .int .i64 x2]
    have Hfin := Lib.hid hfin
    clear hfin
    have hR_l := hR.lt; have hR_0 := hR.cell 0; have hR_1 := hR.cell 1; simp at hR_0 hR_1
    have hR_f0 := hR.frozen 0; have hR_f1 := hR.frozen 1
    have hR2b_l := hR2b.lt; have hR2b_0 := hR2b.cell 0; have hR2b_1 := hR2b.cell 1; simp at hR2b_0 hR2b_1
    go_wp2_with fail
    refine bodyPost_ret (v := .tuple #[.agg #[.string x1, .int .i64 x2], .bool true]) (by simp only [results, Tryz.results69]; go_simp) rfl ?_
    exact ⟨by rw [HF3.out] <;> rfl, Hfin.out⟩
   ·
    have he1 := tl_ne he
    have Hst2 := Lib.hid (Hst.out he)
    clear HF2 Hst hf he
    go_wp2_with fail
    rw [← ha]
    go_roundg (rooms.length - (k + 1))
    case measure => have := hgk.out; omega
    case rel => exact ⟨k + 1, by go_num, by omega, rfl, Hst2.out, hR.alloc _, hb.alloc hb.size _⟩
  ·
   have HN2 := Lib.hid (HN.out (fun j hj _ => hf.out j hj (by omega)))
   have hfin : Below w.heap.size w (((wr.setCell ⟨w.heap.size + 1, 0, none⟩ (.string ⟨#[]⟩)).setCell ⟨w.heap.size + 1, 1, none⟩ (.int .i64 0))) := ((hb.setCell (p := ⟨w.heap.size + 1, 0, none⟩) (by show w.heap.size ≤ w.heap.size + 1; omega) _).setCell (p := ⟨w.heap.size + 1, 1, none⟩) (by show w.heap.size ≤ w.heap.size + 1; omega) _)
   have Hfin := Lib.hid hfin
   clear hfin HN HF hf
   have hR_l := hR.lt; have hR_0 := hR.cell 0; have hR_1 := hR.cell 1; simp at hR_0 hR_1
   have hR_f0 := hR.frozen 0; have hR_f1 := hR.frozen 1
   go_wp2_with fail
   refine bodyPost_ret (v := .tuple #[.agg #[.string ⟨#[]⟩, .int .i64 0], .bool false]) (by simp only [results, Tryz.results69]; go_simp) rfl ?_
   exact ⟨by rw [HN2.out] <;> rfl, Hfin.out⟩


theorem Grd.agg_eq (g : Grd) : g.agg = .agg #[.slice g.ra g.rooms.length g.rc, .slice g.sa g.slots.length g.sc, .slice g.ta g.talks.length g.tc, .slice g.wa g.wishes.length g.wc, .slice g.ba g.bans.length g.bc] := rfl
set_option maxRecDepth 100000 in
set_option maxHeartbeats 4000000 in
theorem risingPapers_any (g : Grd) (s : List ByteArray) (a : Option Addr) (cap : Nat) (w : World) (hg : GRd w g) (hz : GSm g) (hs : SA w a s) (hsl : s.length ≤ 1000000) :
  Calls Tryz.prog 94 #[g.agg, .slice a s.length cap] w (Gives (.int .i64 (firstErr (wpE g s) s.length)) w) := by
 have HT := Lib.hid (fun key W (h : GRd W g) => talkOf_any g key W h (by have := hz.talks; omega))
 have HG := Lib.hid (fun W (h : Below w.heap.size w W) => hg.below h)
 clear hz hg
 rw [Grd.agg_eq] at HT ⊢
 have hX := Box.new w 32 #[.slice g.ra g.rooms.length g.rc, .slice g.sa g.slots.length g.sc, .slice g.ta g.talks.length g.tc, .slice g.wa g.wishes.length g.wc, .slice g.ba g.bans.length g.bc]
 have hb0 : Below w.heap.size w (w.alloc (.cells #[.slice g.ra g.rooms.length g.rc, .slice g.sa g.slots.length g.sc, .slice g.ta g.talks.length g.tc, .slice g.wa g.wishes.length g.wc, .slice g.ba g.bans.length g.bc] 32)) := (Below.refl _ _).alloc (Nat.le_refl _) _
 go_enter Tryz.func94, Tryz.ntmps94
 go_wp2_with fail
 go_loopg [11] s.length (fun gk i wr => ∃ k : Nat, i = .int .i64 k ∧ k ≤ s.length ∧ Hid (gk = s.length - k) ∧ Hid (∀ j, j < k → wpE g s j = 0) ∧ Below w.heap.size w wr ∧ Box wr w.heap.size 32 #[.slice g.ra g.rooms.length g.rc, .slice g.sa g.slots.length g.sc, .slice g.ta g.talks.length g.tc, .slice g.wa g.wishes.length g.wc, .slice g.ba g.bans.length g.bc])
 case atStart => exact ⟨0, rfl, by omega, rfl, fun j hj => by omega, hb0, hX⟩
 case round =>
  clear hX hb0
  obtain ⟨k, rfl, hk, hgk, hf, hb, hX⟩ := hrel
  by_cases hlt : k < s.length
  ·
   obtain ⟨b, off, ha, c0⟩ := (hs.below hb).str hlt
   have hE : wpE g s k = if (talkOf g s[k]).isSome = false then 8 else if ordB s k then 7 else 0 := by
    unfold wpE; rw [List.getElem?_eq_getElem hlt]
   have HE := Lib.hid hE
   clear hE
   rw [ha]
   generalize hx : s[k] = x1 at *
   have Hx := Lib.hid hx
   clear hx
   have hz := hb.size
   have Hfe := Lib.hid (fun (e : Int) he he0 => firstErr_is (f := wpE g s) (e := e) hlt hf.out he he0)
   have hX_l := hX.lt; have hX_0 := hX.cell 0; have hX_1 := hX.cell 1; have hX_2 := hX.cell 2; have hX_3 := hX.cell 3; have hX_4 := hX.cell 4; simp at hX_0 hX_1 hX_2 hX_3 hX_4
   go_wp2_with fail
   clear hX_l hX_0 hX_1 hX_2 hX_3 hX_4
   refine (HT.out x1 _ (HG.out _ hb)).mono ?_
   rintro e w1 ⟨rfl, hb1⟩
   have hb1' : Below w.heap.size w w1 := below_next hb hb1
   have hX1 := hX.below hb1
   clear hX hb1
   unfold talkV
   generalize talkOr g x1 = t at *
   obtain ⟨t1, t2, t3, t4, t5, t6, t7, t8⟩ := t
   unfold Tlk.agg
   cases hh : (talkOf g x1).isSome
   ·
    rw [hh] at HE
    have He := Lib.hid (Hfe.out 8 (by rw [HE.out]; rfl) (by decide))
    go_wp2_with fail
    go_ret
    exact ⟨by rw [He.out]; rfl, hb1'.alloc hb1'.size _⟩
   ·
    rw [hh] at HE
    have hb2 : Below w.heap.size w (w1.alloc (.cells #[.string t1, .slice t5 t2.length t6, .slice t7 t3.length t8, .int .i64 t4] 60)) := hb1'.alloc hb1'.size _
    have hX2 := hX1.alloc (.cells #[.string t1, .slice t5 t2.length t6, .slice t7 t3.length t8, .int .i64 t4] 60)
    go_upto_region 7 with (fail)
    clear hX1 hb1'
    generalize w1.alloc (.cells #[.string t1, .slice t5 t2.length t6, .slice t7 t3.length t8, .int .i64 t4] 60) = w2 at *
    go_cut [34] (fun v wx => v = .bool (ordB s k) ∧ ∃ n, wx = w2.drewN n)
    case first =>
     by_cases hk0 : k = 0
     ·
      have hd : decide (0 < k) = false := by simp [hk0]
      have hd' : decide ((0 : Int) < (k : Int)) = false := by simp [hk0]
      have ho0 : ordB s k = false := by rw [hk0]; rfl
      have Ho := Lib.hid ho0
      clear hk0 ho0
      go_wp2_with fail
      skip
      go_meet
      exact ⟨by rw [Ho.out] <;> rfl, 0, rfl⟩
     ·
      obtain ⟨p, hp⟩ : ∃ p, k = p + 1 := ⟨k - 1, by omega⟩
      have hpl : p < s.length := by omega
      obtain ⟨b', off', ha', d0⟩ := (hs.below hb2).str hpl; generalize hy : s[p] = y at *; have Hy := Lib.hid hy; clear hy
      rw [ha] at ha'
      cases ha'
      have Ho := Lib.hid (ordB_at (ks := s) (k := k) (p := p) (x := x1) (y := y) hp (by have := Hx.out; simp [List.getElem?_eq_getElem hlt, this]) (by have := Hy.out; simp [List.getElem?_eq_getElem hpl, this]))
      have hwp : IntKind.i64.wrap ((k : Int) - 1) = (p : Int) := by rw [hp, IntWalk.i64_in _ (by omega)]; omega
      have hk1 : 0 < k := by omega
      have hk2 : (0 : Int) < (k : Int) := by omega
      have hp1 : (0 : Int) ≤ (p : Int) := by omega
      have hp2 : (p : Int) < (s.length : Int) := by omega
      have hp3 : (k : Int) - 1 = (p : Int) := by omega
      have Hp := Lib.hid hp
      clear hp hk0
      go_wp2_with fail
      skip
      go_meet
      exact ⟨by rw [Ho.out] <;> rfl, 0, rfl⟩
    case rest =>
     obtain ⟨hso, n, rfl⟩ := hcut
     rw [hso]
     cases hob : ordB s k
     ·
      rw [hob] at HE
      go_wp2_with fail
      rw [← ha]
      go_roundg (s.length - (k + 1))
      case measure => have := hgk.out; omega
      case rel => exact ⟨k + 1, by go_num, by omega, rfl, zeros_succ hf.out (by rw [HE.out]; rfl), below_drewN hb2 _, hX2.drewN _⟩
     ·
      rw [hob] at HE
      have He := Lib.hid (Hfe.out 7 (by rw [HE.out]; rfl) (by decide))
      go_wp2_with fail
      go_ret
      exact ⟨by rw [He.out]; rfl, below_drewN hb2 _⟩
  ·
   have hE0 : firstErr (wpE g s) s.length = 0 := by
    obtain rfl : k = s.length := by omega
    exact firstErr_zero hf.out
   have HE0 := Lib.hid hE0
   clear hE0
   go_wp2_with fail
   go_ret
   exact ⟨by rw [HE0.out]; rfl, hb⟩
set_option maxRecDepth 100000 in
set_option maxHeartbeats 4000000 in
theorem talkFault_any (t : Tlk) (w : World) (h1 : SA w t.a1 t.speakers) (h2 : SA w t.a2 t.topics) (hok : TlkOk t) : Calls Tryz.prog 42 #[t.agg] w (Gives (.int .i64 (talkFault t)) w) := by
 obtain ⟨o1, o2, o3, o4, o5, o6, o7⟩ := hok
 have HS := Lib.hid (fun W (h : SA W t.a1 t.speakers) => risingKeys_any t.speakers t.a1 t.c1 W h (by omega) o4)
 have HT := Lib.hid (fun W (h : SA W t.a2 t.topics) => risingKeys_any t.topics t.a2 t.c2 W h (by omega) o5)
 have HR : Hid (talkFault t = if t.speakers.length = 0 then 8 else if 20 < t.speakers.length then 2 else if riseFault t.speakers ≠ 0 then riseFault t.speakers else if 8 < t.topics.length then 2 else if riseFault t.topics ≠ 0 then riseFault t.topics else if decide (t.long < 1) || decide (1440 < t.long) then 1 else 0) := rfl
 clear o1 o4 o5
 generalize talkFault t = R at *
 generalize riseFault t.speakers = f1 at *
 generalize riseFault t.topics = f2 at *
 obtain ⟨paper, sp, tp, long, a1, c1, a2, c2⟩ := t
 simp only at h1 h2 HS HT HR o2 o3 o6 o7
 show Calls Tryz.prog 42 #[.agg #[.string paper, .slice a1 sp.length c1, .slice a2 tp.length c2, .int .i64 long]] w (Gives (.int .i64 R) w)
 have hX := Box.new w 60 #[.string paper, .slice a1 sp.length c1, .slice a2 tp.length c2, .int .i64 long]
 have hb0 : Below w.heap.size w (w.alloc (.cells #[.string paper, .slice a1 sp.length c1, .slice a2 tp.length c2, .int .i64 long] 60)) := (Below.refl _ _).alloc (Nat.le_refl _) _
 go_enter Tryz.func42, Tryz.ntmps42
 have hX_l := hX.lt; have hX_0 := hX.cell 0; have hX_1 := hX.cell 1; have hX_2 := hX.cell 2; have hX_3 := hX.cell 3; simp at hX_0 hX_1 hX_2 hX_3
 by_cases q1 : sp.length = 0
 ·
  have He : Hid (R = 8) := by show _ = _; rw [HR.out, if_pos q1]
  have hd : ((sp.length : Int) == 0) = true := by rw [beq_iff_eq]; omega
  clear HR q1
  go_wp2_with fail
  go_ret
  exact ⟨by rw [He.out] <;> rfl, hb0⟩
 ·
  rw [if_neg q1] at HR
  have hd : ((sp.length : Int) == 0) = false := by rw [beq_eq_false_iff_ne]; omega
  by_cases q2 : 20 < sp.length
  ·
   have He : Hid (R = 2) := by show _ = _; rw [HR.out, if_pos q2]
   have hd2 : decide ((20 : Int) < (sp.length : Int)) = true := decide_eq_true (by omega)
   clear HR
   go_wp2_with fail
   go_ret
   exact ⟨by rw [He.out] <;> rfl, hb0⟩
  ·
   rw [if_neg q2] at HR
   have hd2 : decide ((20 : Int) < (sp.length : Int)) = false := decide_eq_false (by omega)
   go_wp2_with fail
   refine (HS.out _ (h1.alloc _)).mono ?_
   rintro e w1 ⟨rfl, hb1⟩
   have hb1' := below_next hb0 hb1
   have hX1 := hX.below hb1
   clear hX_l hX_0 hX_1 hX_2 hX_3
   clear hX hb0 hb1 hd hd2
   by_cases q3 : f1 = 0
   ·
    rw [if_neg (fun h => h q3)] at HR
    subst q3
    have hX1_l := hX1.lt; have hX1_0 := hX1.cell 0; have hX1_1 := hX1.cell 1; have hX1_2 := hX1.cell 2; have hX1_3 := hX1.cell 3; simp at hX1_0 hX1_1 hX1_2 hX1_3
    by_cases q4 : 8 < tp.length
    ·
     have He : Hid (R = 2) := by show _ = _; rw [HR.out, if_pos q4]
     have hd2 : decide ((8 : Int) < (tp.length : Int)) = true := decide_eq_true (by omega)
     clear HR
     go_wp2_with fail
     go_ret
     exact ⟨by rw [He.out] <;> rfl, hb1'⟩
    ·
     rw [if_neg q4] at HR
     have hd2 : decide ((8 : Int) < (tp.length : Int)) = false := decide_eq_false (by omega)
     go_wp2_with fail
     refine (HT.out _ (h2.below hb1')).mono ?_
     rintro e w2 ⟨rfl, hb2⟩
     have hb2' := below_next hb1' hb2
     have hX2 := hX1.below hb2
     clear hX1_l hX1_0 hX1_1 hX1_2 hX1_3
     clear hX1 hb1' hb2 hd2
     by_cases q5 : f2 = 0
     ·
      rw [if_neg (fun h => h q5)] at HR
      subst q5
      have hX2_l := hX2.lt; have hX2_0 := hX2.cell 0; have hX2_1 := hX2.cell 1; have hX2_2 := hX2.cell 2; have hX2_3 := hX2.cell 3; simp at hX2_0 hX2_1 hX2_2 hX2_3
      by_cases q6 : long < 1
      ·
       have He : Hid (R = 1) := by show _ = _; rw [HR.out, decide_eq_true q6]; rfl
       have hd3 : decide (long < 1) = true := decide_eq_true q6
       clear HR
       go_wp2_with fail
       go_ret
       exact ⟨by rw [He.out] <;> rfl, hb2'⟩
      ·
       have hd3 : decide (long < 1) = false := decide_eq_false q6
       rw [hd3] at HR
       by_cases q7 : 1440 < long
       ·
        have He : Hid (R = 1) := by show _ = _; rw [HR.out, decide_eq_true q7]; rfl
        have hd4 : decide (1440 < long) = true := decide_eq_true q7
        clear HR
        go_wp2_with fail
        go_ret
        exact ⟨by rw [He.out] <;> rfl, hb2'⟩
       ·
        have He : Hid (R = 0) := by show _ = _; rw [HR.out, decide_eq_false q7]; rfl
        have hd4 : decide (1440 < long) = false := decide_eq_false q7
        clear HR
        go_wp2_with fail
        go_ret
        exact ⟨by rw [He.out] <;> rfl, hb2'⟩
     ·
      have He : Hid (R = f2) := by show _ = _; rw [HR.out, if_pos q5]
      clear HR
      go_wp2_with fail
      go_ret
      exact ⟨by rw [He.out] <;> rfl, hb2'⟩
   ·
    have He : Hid (R = f1) := by show _ = _; rw [HR.out, if_pos q3]
    clear HR
    go_wp2_with fail
    go_ret
    exact ⟨by rw [He.out] <;> rfl, hb1'⟩
end Go.Proofs.YtldgphhiajhfhaaGreatDoor
