/- Points: of the program, of the reference. -/
import Derived.Test.YtgihommenknhoaaGreatDoorWins
import Derived.Test.YtgihommenknhoaaGreatDoorBal
namespace Go.Proofs.YtgihommenknhoaaGreatDoor
open Go.RowKit Go.Sort
set_option linter.unusedVariables false
set_option linter.unusedSimpArgs false

/-- Some marks of other papers. -/
def oth (p : ByteArray) (ms : List Mark) : List Mark := ms.filter (fun x => !decide (x.1 = p))
theorem oth_snoc (p : ByteArray) (ms : List Mark) (x : Mark) : oth p (ms ++ [x]) = if x.1 = p then oth p ms else oth p ms ++ [x] := by
  unfold oth
  rw [List.filter_append, List.filter_cons]
  by_cases h : x.1 = p <;> simp [h]
theorem oth_len (p : ByteArray) (ms : List Mark) : (oth p ms).length ≤ ms.length := List.length_filter_le _ _
theorem oth_rest (l : List Mark) (a p : ByteArray) : oth p (sel (fun x => x.2.1) a l) = rest l a p := (rest_sel l a p).symm
set_option maxRecDepth 100000 in
set_option maxHeartbeats 2000000 in
theorem points_any (sb b1 b2 base : Nat) (a : Option Addr) (cap : Nat) (l : List Mark) (es1 es2 : List (ByteArray × Value)) (w : World) (hst : ShSt sb b1 b2 base a l.length cap l l es1 es2 w) (h0 : marksFault l = 0) (hl : l.length ≤ 400) (p : ByteArray) :
    Calls Tryz.prog 164 #[.pointer (some ⟨sb, 0, none⟩), .string p] w (Gives (.tuple #[.int .i64 (ptsN l p (ofP l p)), .int .i64 (ptsM l p (ofP l p))]) w) := by
  have hS := hst.box
  have hlkA := hst.one.look p
  have hvalA := hst.one.vals p
  obtain ⟨av, capv, hv, hsav, _, _⟩ := hvalA.sa
  rw [hv] at hlkA
  have hmA : (sel (fun x => x.1) p l).length ≤ 12 := paper_few h0 p
  unfold ofP
  clear hvalA hv
  generalize sel (fun x => x.1) p l = ms at *
  have hS_l := hS.lt; have hS_0 := hS.cell 0; have hS_1 := hS.cell 1; have hS_2 := hS.cell 2; simp at hS_0 hS_1 hS_2
  go_enter Tryz.func164, Tryz.ntmps164
  go_wp2_with fail
  clear hS_l hS_0 hS_1 hS_2
  clear hlkA
  go_loopg [4, 5, 17] ms.length (fun gk nv mv i wr => ∃ k : Nat, i = .int .i64 k ∧ k ≤ ms.length ∧ Hid (gk = ms.length - k) ∧ nv = .int .i64 (ptsN l p (ms.take k)) ∧ mv = .int .i64 (ptsM l p (ms.take k)) ∧ Below w.heap.size w wr)
  case atStart => exact ⟨0, rfl, by omega, rfl, rfl, rfl, Below.refl _ _⟩
  obtain ⟨k, rfl, hk, hgk, rfl, rfl, hb⟩ := hrel
  have hzr := hb.size
  by_cases hlt : k < ms.length
  · obtain ⟨mb, moff, ha', c0, c1, c2⟩ := (hsav.below hb).mark hlt
    have htake := List.take_succ_eq_append_getElem hlt
    have Hs1 := Lib.hid (ptsN_snoc l p (ms.take k) ms[k])
    have Hs2 := Lib.hid (ptsM_snoc l p (ms.take k) ms[k])
    rw [← htake] at Hs1 Hs2
    have hpb := pts_bd l hl p (ms.take k)
    rw [List.length_take] at hpb
    have HA := Lib.hid ha'
    rw [ha']
    generalize hx : ms[k] = x at *
    obtain ⟨x1, x2, x3⟩ := x
    simp only at c0 c1 c2 Hs1 Hs2
    clear hx htake ha'
    generalize ptsN l p (ms.take k) = n0 at *
    generalize ptsM l p (ms.take k) = m0 at *
    have hbt : Below w.heap.size w (wr.alloc (.cells #[.string x1, .string x2, .int .i64 x3] 88)) := hb.alloc hzr _
    have hT := Box.new wr 88 #[.string x1, .string x2, .int .i64 x3]
    have hlkB := ((hst.below hbt).below (w' := (wr.alloc (.cells #[.string x1, .string x2, .int .i64 x3] 88)).drew) ((Below.refl _ _).drew)).two.look x2
    have hvalB := hst.two.vals x2
    obtain ⟨bv, capb, hvb, hsbv, _, _⟩ := hvalB.sa
    rw [hvb] at hlkB
    have hor := oth_rest l x2 p
    have hmB := sel_len (fun x => x.2.1) x2 l
    rw [← hor] at Hs1 Hs2
    clear hvalB hvb hor
    generalize sel (fun x => x.2.1) x2 l = bs at *
    have hS2 := (hS.below hbt).drew
    have hT2 := hT.drew
    have hbt2 := hbt.drew
    generalize htb : wr.heap.size = tb at *
    have hS2_l := hS2.lt; have hS2_0 := hS2.cell 0; have hS2_1 := hS2.cell 1; have hS2_2 := hS2.cell 2; simp at hS2_0 hS2_1 hS2_2
    have hT2_l := hT2.lt; have hT2_0 := hT2.cell 0; have hT2_1 := hT2.cell 1; have hT2_2 := hT2.cell 2; simp at hT2_0 hT2_1 hT2_2
    go_upto_region 4 with (fail)
    (try simp only [htb])
    refine wp_region_held_drew (S := (fun wx => wx.cell? ⟨sb, 2, none⟩ = some (.map (some b2)) ∧ wx.cell? ⟨tb, 1, none⟩ = some (.string x2) ∧ (Instr.lookup 93 (.map (some b2)) (.string x2) false).run Tryz.prog wx = .ok (.slice bv bs.length capb) wx)) (by kernel_rfl) ?hS (fun hHeld => ?_)
    case hS => exact ⟨hS2_2, hT2_1, hlkB⟩
    refine rtake (i := 0) (d := (some 21)) (v := ?_) rfl (by kernel_rfl) (by kernel_rfl) (by kernel_rfl) (by kernel_rfl) (fun _ _ _ h => h) (by kernel_rfl) (by assumption) ?_ ?_
    rotate_left 1
    · (intro wI hSI; (try dsimp only at hSI); go_simp; (try with_reducible rfl))
    simp only [Act.put, List.setIfInBounds_toArray, List.set_cons_zero, List.set_cons_succ]
    refine rtake (i := 1) (d := (some 22)) (v := ?_) rfl (by kernel_rfl) (by kernel_rfl) (by kernel_rfl) (by kernel_rfl) (fun _ _ _ h => h) (by kernel_rfl) (by assumption) ?_ ?_
    rotate_left 1
    · (intro wI hSI; (try dsimp only at hSI); go_simp; (try with_reducible rfl))
    simp only [Act.put, List.setIfInBounds_toArray, List.set_cons_zero, List.set_cons_succ]
    refine rtake (i := 2) (d := (some 23)) (v := ?_) rfl (by kernel_rfl) (by kernel_rfl) (by kernel_rfl) (by kernel_rfl) (fun _ _ _ h => h) (by kernel_rfl) (by assumption) ?_ ?_
    rotate_left 1
    · (intro wI hSI; (try dsimp only at hSI); go_simp; (try with_reducible rfl))
    simp only [Act.put, List.setIfInBounds_toArray, List.set_cons_zero, List.set_cons_succ]
    refine rtake (i := 3) (d := (some 24)) (v := ?_) rfl (by kernel_rfl) (by kernel_rfl) (by kernel_rfl) (by kernel_rfl) (fun _ _ _ h => h) (by kernel_rfl) (by assumption) ?_ ?_
    rotate_left 1
    · (intro wI hSI; (try dsimp only at hSI); go_simp; (try with_reducible rfl))
    simp only [Act.put, List.setIfInBounds_toArray, List.set_cons_zero, List.set_cons_succ]
    refine rtake (i := 4) (d := (some 25)) (v := ?_) rfl (by kernel_rfl) (by kernel_rfl) (by kernel_rfl) (by kernel_rfl) (fun _ _ _ h => h) (by kernel_rfl) (by assumption) ?_ ?_
    rotate_left 1
    · (intro wI hSI; (try dsimp only at hSI); go_simp; (try with_reducible rfl))
    simp only [Act.put, List.setIfInBounds_toArray, List.set_cons_zero, List.set_cons_succ]
    refine rtake (i := 5) (d := (some 26)) (v := ?_) rfl (by kernel_rfl) (by kernel_rfl) (by kernel_rfl) (by kernel_rfl) (fun _ _ _ h => h) (by kernel_rfl) (by assumption) ?_ ?_
    rotate_left 1
    · (intro wI hSI; (try dsimp only at hSI); go_simp; (try with_reducible rfl))
    simp only [Act.put, List.setIfInBounds_toArray, List.set_cons_zero, List.set_cons_succ]
    refine rtake (i := 6) (d := (some 27)) (v := ?_) rfl (by kernel_rfl) (by kernel_rfl) (by kernel_rfl) (by kernel_rfl) (fun _ _ _ h => h) (by kernel_rfl) (by assumption) ?_ ?_
    rotate_left 1
    · (intro wI hSI; (try dsimp only at hSI); go_simp; (try with_reducible rfl))
    simp only [Act.put, List.setIfInBounds_toArray, List.set_cons_zero, List.set_cons_succ]
    refine rtake (i := 7) (d := (some 28)) (v := ?_) rfl (by kernel_rfl) (by kernel_rfl) (by kernel_rfl) (by kernel_rfl) (fun _ _ _ h => h) (by kernel_rfl) (by assumption) ?_ ?_
    rotate_left 1
    · (intro wI hSI; (try dsimp only at hSI); go_simp; (try with_reducible rfl))
    simp only [Act.put, List.setIfInBounds_toArray, List.set_cons_zero, List.set_cons_succ]
    refine rtake (i := 8) (d := (some 29)) (v := ?_) rfl (by kernel_rfl) (by kernel_rfl) (by kernel_rfl) (by kernel_rfl) (fun _ _ _ h => h) (by kernel_rfl) (by assumption) ?_ ?_
    rotate_left 1
    · (intro wI hSI; (try dsimp only at hSI); go_simp; (try with_reducible rfl))
    simp only [Act.put, List.setIfInBounds_toArray, List.set_cons_zero, List.set_cons_succ]
    refine rtake (i := 9) (d := (some 30)) (v := ?_) rfl (by kernel_rfl) (by kernel_rfl) (by kernel_rfl) (by kernel_rfl) (fun _ _ _ h => h) (by kernel_rfl) (by assumption) ?_ ?_
    rotate_left 1
    · (intro wI hSI; (try dsimp only at hSI); go_simp; (try with_reducible rfl))
    simp only [Act.put, List.setIfInBounds_toArray, List.set_cons_zero, List.set_cons_succ]
    refine wpAnyH_done (by kernel_rfl) ?_ _
    clear hS2_l hS2_0 hS2_1 hS2_2
    clear hT2_l hT2_0 hT2_1 hT2_2
    clear hlkB hS2 hHeld htb hb hbt hT c0 c1 c2
    generalize (wr.alloc (.cells #[.string x1, .string x2, .int .i64 x3] 88)).drew = wv at *
    go_wp2_with fail
    go_loopg [4, 5, 30] bs.length (fun gk nv mv i wx => ∃ j : Nat, i = .int .i64 j ∧ j ≤ bs.length ∧ Hid (gk = bs.length - j) ∧ nv = .int .i64 (n0 + ptsS x3 (oth p (bs.take j))) ∧ mv = .int .i64 (m0 + ((oth p (bs.take j)).length : Nat)) ∧ Below wv.heap.size wv wx)
    case atStart => exact ⟨0, rfl, by omega, rfl, by simp [oth, ptsS], by simp [oth], Below.refl _ _⟩
    obtain ⟨j, rfl, hj, hgj, rfl, rfl, hbx⟩ := hrel
    have hzx := hbx.size
    by_cases hjl : j < bs.length
    · obtain ⟨nb, noff, hb', d0, d1, d2⟩ := ((hsbv.below hbt2).below hbx).mark hjl
      have htake := List.take_succ_eq_append_getElem hjl
      have Hsj := Lib.hid (oth_snoc p (bs.take j) bs[j])
      rw [← htake] at Hsj
      have Hpj := Lib.hid (ptsS_snoc x3 (oth p (bs.take j)) bs[j])
      have hcj := oth_len p (bs.take j)
      rw [List.length_take] at hcj
      have hpj := ptsS_bd x3 (oth p (bs.take j))
      have HB := Lib.hid hb'
      rw [hb']
      generalize hy : bs[j] = y at *
      obtain ⟨y1, y2, y3⟩ := y
      simp only at d0 d1 d2 Hsj Hpj
      clear hy htake hb'
      generalize oth p (bs.take j) = os at *
      generalize hpp : ptsS x3 os = pp at *
      have Hpp := Lib.hid hpp
      clear hpp
      have hTx := hT2.below hbx
      have hbu : Below wv.heap.size wv (wr.alloc (.cells #[.string y1, .string y2, .int .i64 y3] 88)) := hbx.alloc hzx _
      have hcb := cmpI_bd x3 y3
      have HC := Lib.hid (fun W => Tryz.cmp_Compare_int x3 y3 W)
      rw [show Lib.compareInt x3 y3 = cmpI x3 y3 from rfl] at HC
      generalize cmpI x3 y3 = cz at *
      have hTx_l := hTx.lt; have hTx_0 := hTx.cell 0; have hTx_1 := hTx.cell 1; have hTx_2 := hTx.cell 2; simp at hTx_0 hTx_1 hTx_2
      by_cases hp : y1 = p
      · have e1 := tl_eq' hp
        have e2 := tl_eq hp
        have e3 : y1.toList = p.toList := by rw [hp]
        rw [if_pos hp] at Hsj
        clear hp HC
        go_wp2_with fail
        rw [← HB.out]
        go_roundg (bs.length - (j + 1))
        case measure => have := hgj.out; omega
        case rel => exact ⟨j + 1, by go_num, by omega, rfl, by rw [Hsj.out, Hpp.out], by rw [Hsj.out], hbu⟩
      · have e1 := tl_ne' hp
        have e2 := tl_ne hp
        have e3 : ¬ y1.toList = p.toList := fun h => hp (toList_inj.1 h)
        rw [if_neg hp] at Hsj
        clear hp
        go_wp2_with fail
        refine (HC.out _).mono ?_
        rintro e w'' ⟨rfl, rfl⟩
        go_wp2_with fail
        rw [← HB.out]
        go_roundg (bs.length - (j + 1))
        case measure => have := hgj.out; omega
        case rel => exact ⟨j + 1, by go_num, by omega, rfl, by rw [Hsj.out, Hpj.out]; congr 1; omega, by rw [Hsj.out, List.length_append]; congr 1; simp; omega, hbu⟩
    · obtain rfl : j = bs.length := by omega
      rw [List.take_length]
      have hbf := hbt2.trans (hbx.mono hbt2.size)
      clear hjl hgj
      go_wp2_with fail
      rw [← HA.out]
      go_roundg (ms.length - (k + 1))
      case measure => have := hgk.out; omega
      case rel => exact ⟨k + 1, by go_num, by omega, rfl, by rw [Hs1.out], by rw [Hs2.out], hbf⟩
  · obtain rfl : k = ms.length := by omega
    rw [List.take_length]
    clear hlt
    go_wp2_with fail
    go_ret2
    exact ⟨rfl, hb⟩
set_option maxRecDepth 100000 in
set_option maxHeartbeats 2000000 in
theorem pointsOf_any (l : List Mark) (a : Option Addr) (cap : Nat) (p : ByteArray) (w : World) (hs : SA w a l) (hl : l.length ≤ 400) :
    Calls Tryz.prog 133 #[.slice a l.length cap, .string p] w (Gives (.tuple #[.int .i64 (ptsN l p (ofP l p)), .int .i64 (ptsM l p (ofP l p))]) w) := by
  go_enter Tryz.func133, Tryz.ntmps133
  go_wp2_with fail
  go_loopg [4, 5, 12] l.length (fun gk nv mv i wr => ∃ k : Nat, i = .int .i64 k ∧ k ≤ l.length ∧ Hid (gk = l.length - k) ∧ nv = .int .i64 (ptsN l p (ofP (l.take k) p)) ∧ mv = .int .i64 (ptsM l p (ofP (l.take k) p)) ∧ Below w.heap.size w wr)
  case atStart => exact ⟨0, rfl, by omega, rfl, rfl, rfl, Below.refl _ _⟩
  case round =>
    obtain ⟨k, rfl, hk, hgk, rfl, rfl, hb⟩ := hrel
    have hzr := hb.size
    by_cases hlt : k < l.length
    · obtain ⟨mb, moff, ha', c0, c1, c2⟩ := (hs.below hb).mark hlt
      have htake := List.take_succ_eq_append_getElem hlt
      have Hsn := Lib.hid (sel_snoc (fun x => x.1) p (l.take k) l[k])
      rw [← htake] at Hsn
      have Hs1 := Lib.hid (ptsN_snoc l p (sel (fun x => x.1) p (l.take k)) l[k])
      have Hs2 := Lib.hid (ptsM_snoc l p (sel (fun x => x.1) p (l.take k)) l[k])
      have hpb := pts_bd l hl p (sel (fun x => x.1) p (l.take k))
      have hsl := sel_len (fun x => x.1) p (l.take k)
      rw [List.length_take] at hsl
      have HA := Lib.hid ha'
      unfold ofP at *
      rw [ha']
      generalize hx : l[k] = x at *
      obtain ⟨x1, x2, x3⟩ := x
      simp only at c0 c1 c2 Hs1 Hs2 Hsn
      clear hx htake ha'
      generalize hse : sel (fun x => x.1) p (l.take k) = se at *
      clear hse
      generalize hn0 : ptsN l p se = n0 at *
      generalize hm0 : ptsM l p se = m0 at *
      have Hn0 := Lib.hid hn0
      have Hm0 := Lib.hid hm0
      clear hn0 hm0
      have hbt : Below w.heap.size w (wr.alloc (.cells #[.string x1, .string x2, .int .i64 x3] 88)) := hb.alloc hzr _
      have hT := Box.new wr 88 #[.string x1, .string x2, .int .i64 x3]
      by_cases hp1 : x1 = p
      · have e1 := tl_eq' hp1
        have e2 := tl_eq hp1
        have e3 : x1.toList = p.toList := by rw [hp1]
        rw [if_pos hp1] at Hsn
        clear hp1
        generalize hWv : wr.alloc (.cells #[.string x1, .string x2, .int .i64 x3] 88) = wv at *
        generalize htb : wr.heap.size = tb at *
        have hT_l := hT.lt; have hT_0 := hT.cell 0; have hT_1 := hT.cell 1; have hT_2 := hT.cell 2; simp at hT_0 hT_1 hT_2
        go_upto_region 5 with (fail)
        (try simp only [hWv, htb])
        clear hT_l hT_0 hT_1 hT_2
        clear hWv htb hb c0 c1 c2
        go_wp2_with fail
        go_loopg [4, 5, 23] l.length (fun gk nv mv i wx => ∃ j : Nat, i = .int .i64 j ∧ j ≤ l.length ∧ Hid (gk = l.length - j) ∧ nv = .int .i64 (n0 + ptsS x3 (rest (l.take j) x2 p)) ∧ mv = .int .i64 (m0 + ((rest (l.take j) x2 p).length : Nat)) ∧ Below wv.heap.size wv wx)
        case atStart => exact ⟨0, rfl, by omega, rfl, by simp [rest, ptsS], by simp [rest], Below.refl _ _⟩
        obtain ⟨j, rfl, hj, hgj, rfl, rfl, hbx⟩ := hrel
        have hzx := hbx.size
        by_cases hjl : j < l.length
        · obtain ⟨nb, noff, hb', d0, d1, d2⟩ := ((hs.below hbt).below hbx).mark hjl
          have htake := List.take_succ_eq_append_getElem hjl
          have Hsj := Lib.hid (rest_snoc (l.take j) x2 p l[j])
          rw [← htake] at Hsj
          have Hpj := Lib.hid (ptsS_snoc x3 (rest (l.take j) x2 p) l[j])
          have hcj := rest_len (l.take j) x2 p
          rw [List.length_take] at hcj
          have hpj := ptsS_bd x3 (rest (l.take j) x2 p)
          have HB := Lib.hid hb'
          rw [HA.out] at hb'
          cases hb'
          generalize hy : l[j] = y at *
          obtain ⟨y1, y2, y3⟩ := y
          simp only at d0 d1 d2 Hsj Hpj
          clear hy htake
          generalize rest (l.take j) x2 p = os at *
          generalize hpp : ptsS x3 os = pp at *
          have Hpp := Lib.hid hpp
          clear hpp
          have hTx := hT.below hbx
          have hbu : Below wv.heap.size wv (wr.alloc (.cells #[.string y1, .string y2, .int .i64 y3] 88)) := hbx.alloc hzx _
          have hcb := cmpI_bd x3 y3
          have HC := Lib.hid (fun W => Tryz.cmp_Compare_int x3 y3 W)
          rw [show Lib.compareInt x3 y3 = cmpI x3 y3 from rfl] at HC
          generalize cmpI x3 y3 = cz at *
          have hTx_l := hTx.lt; have hTx_0 := hTx.cell 0; have hTx_1 := hTx.cell 1; have hTx_2 := hTx.cell 2; simp at hTx_0 hTx_1 hTx_2
          by_cases hp2 : y2 = x2
          · have f2 := tl_eq hp2
            by_cases hq : y1 = p
            · have g1 := tl_eq' hq
              have g2 := tl_eq hq
              have g3 : y1.toList = p.toList := by rw [hq]
              rw [if_neg (by simp [hq])] at Hsj
              clear hp2 hq HC
              go_wp2_with fail
              go_roundg (l.length - (j + 1))
              case measure => have := hgj.out; omega
              case rel => exact ⟨j + 1, by go_num, by omega, rfl, by rw [Hsj.out, Hpp.out], by rw [Hsj.out], hbu⟩
            · have g1 := tl_ne' hq
              have g2 := tl_ne hq
              have g3 : ¬ y1.toList = p.toList := fun h => hq (toList_inj.1 h)
              rw [if_pos ⟨hp2, hq⟩] at Hsj
              clear hp2 hq
              go_wp2_with fail
              refine (HC.out _).mono ?_
              rintro e w'' ⟨rfl, rfl⟩
              go_wp2_with fail
              go_roundg (l.length - (j + 1))
              case measure => have := hgj.out; omega
              case rel => exact ⟨j + 1, by go_num, by omega, rfl, by rw [Hsj.out, Hpj.out]; congr 1; omega, by rw [Hsj.out, List.length_append]; congr 1; simp; omega, hbu⟩
          · have f2 := tl_ne hp2
            rw [if_neg (by simp [hp2])] at Hsj
            clear hp2 HC
            go_wp2_with fail
            go_roundg (l.length - (j + 1))
            case measure => have := hgj.out; omega
            case rel => exact ⟨j + 1, by go_num, by omega, rfl, by rw [Hsj.out, Hpp.out], by rw [Hsj.out], hbu⟩
        · obtain rfl : j = l.length := by omega
          rw [List.take_length]
          have hbf := hbt.trans (hbx.mono hbt.size)
          clear hjl hgj
          go_wp2_with fail
          rw [← HA.out]
          go_roundg (l.length - (k + 1))
          case measure => have := hgk.out; omega
          case rel => exact ⟨k + 1, by go_num, by omega, rfl, by rw [Hsn.out, Hs1.out], by rw [Hsn.out, Hs2.out], hbf⟩
      · have e1 := tl_ne' hp1
        have e2 := tl_ne hp1
        have e3 : ¬ x1.toList = p.toList := fun h => hp1 (toList_inj.1 h)
        rw [if_neg hp1] at Hsn
        clear hp1
        go_wp2_with fail
        rw [← HA.out]
        go_roundg (l.length - (k + 1))
        case measure => have := hgk.out; omega
        case rel => exact ⟨k + 1, by go_num, by omega, rfl, by rw [Hsn.out, Hn0.out], by rw [Hsn.out, Hm0.out], hbt⟩
    · obtain rfl : k = l.length := by omega
      rw [List.take_length]
      clear hlt
      go_wp2_with fail
      go_ret2
      exact ⟨rfl, hb⟩
end Go.Proofs.YtgihommenknhoaaGreatDoor
