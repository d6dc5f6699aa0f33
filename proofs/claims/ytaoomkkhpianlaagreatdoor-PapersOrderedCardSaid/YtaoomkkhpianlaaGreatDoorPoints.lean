/- Points: of the program, of the reference. -/
import Derived.Test.YtaoomkkhpianlaaGreatDoorWins
import Derived.Test.YtaoomkkhpianlaaGreatDoorBal
namespace Go.Proofs.YtaoomkkhpianlaaGreatDoor
open Go.RowKit Go.Sort
set_option linter.unusedVariables false
set_option linter.unusedSimpArgs false

/-- Some marks of other papers. -/
def oth (p : ByteArray) (ms : List Mark) : List Mark := ms.filter (fun x => !decide (x.1 = p))
theorem oth_snoc (p : ByteArray) (ms : List Mark) (x : Mark) : oth p (ms ++ [x]) = if x.1 = p then oth p ms else oth p ms ++ [x] := by
  unfold oth
  rw [List.filter_append, List.filter_cons]
  by_cases h : x.1 = p <;> simp [h]
theorem oth_len (p : ByteArray) (ms : List Mark) : (oth p ms).length ≤ ms.length := List.length_filter_le _ _
theorem oth_rest (l : List Mark) (a p : ByteArray) : oth p (sel (fun x => x.2.1) a l) = rest l a p := (rest_sel l a p).symm
set_option maxRecDepth 100000 in
set_option maxHeartbeats 2000000 in
theorem points_any (sb b1 b2 base : Nat) (a : Option Addr) (cap : Nat) (l : List Mark) (es1 es2 : List (ByteArray × Value)) (w : World) (hst : ShSt sb b1 b2 base a l.length cap l l es1 es2 w) (h0 : marksFault l = 0) (hl : l.length ≤ 400) (p : ByteArray) :
    Calls Tryz.prog 95 #[.pointer (some ⟨sb, 0, none⟩), .string p] w (Gives (.tuple #[.int .i64 (ptsN l p (ofP l p)), .int .i64 (ptsM l p (ofP l p))]) w) := by
  have hS := hst.box
  have hlkA := hst.one.look p
  have hvalA := hst.one.vals p
  obtain ⟨av, capv, hv, hsav, _, _⟩ := hvalA.sa
  rw [hv] at hlkA
  have hmA : (sel (fun x => x.1) p l).length ≤ 12 := paper_few h0 p
  unfold ofP
  clear hvalA hv
  generalize sel (fun x => x.1) p l = ms at *
  have hS_l := hS.lt; have hS_0 := hS.cell 0; have hS_1 := hS.cell 1; have hS_2 := hS.cell 2; simp at hS_0 hS_1 hS_2
  go_enter Tryz.func95, Tryz.ntmps95
  go_wp2_with fail
  clear hS_l hS_0 hS_1 hS_2
  clear hlkA
  go_loopg [4, 5, 17] ms.length (fun gk nv mv i wr => ∃ k : Nat, i = .int .i64 k ∧ k ≤ ms.length ∧ Hid (gk = ms.length - k) ∧ nv = .int .i64 (ptsN l p (ms.take k)) ∧ mv = .int .i64 (ptsM l p (ms.take k)) ∧ Below w.heap.size w wr)
  case atStart => exact ⟨0, rfl, by omega, rfl, rfl, rfl, Below.refl _ _⟩
  obtain ⟨k, rfl, hk, hgk, rfl, rfl, hb⟩ := hrel
  have hzr := hb.size
  by_cases hlt : k < ms.length
  · obtain ⟨mb, moff, ha', c0, c1, c2⟩ := (hsav.below hb).mark hlt
    have htake := List.take_succ_eq_append_getElem hlt
    have Hs1 := Lib.hid (ptsN_snoc l p (ms.take k) ms[k])
    have Hs2 := Lib.hid (ptsM_snoc l p (ms.take k) ms[k])
    rw [← htake] at Hs1 Hs2
    have hpb := pts_bd l hl p (ms.take k)
    rw [List.length_take] at hpb
    have HA := Lib.hid ha'
    rw [ha']
    generalize hx : ms[k] = x at *
    obtain ⟨x1, x2, x3⟩ := x
    simp only at c0 c1 c2 Hs1 Hs2
    clear hx htake ha'
    generalize ptsN l p (ms.take k) = n0 at *
    generalize ptsM l p (ms.take k) = m0 at *
    have hbt : Below w.heap.size w (wr.alloc (.cells #[.string x1, .string x2, .int .i64 x3] 54)) := hb.alloc hzr _
    have hT := Box.new wr 54 #[.string x1, .string x2, .int .i64 x3]
    have hlkB := ((hst.below hbt).below (w' := (wr.alloc (.cells #[.string x1, .string x2, .int .i64 x3] 54)).drew) ((Below.refl _ _).drew)).two.look x2
    have hvalB := hst.two.vals x2
    obtain ⟨bv, capb, hvb, hsbv, _, _⟩ := hvalB.sa
    rw [hvb] at hlkB
    have hor := oth_rest l x2 p
    have hmB := sel_len (fun x => x.2.1) x2 l
    rw [← hor] at Hs1 Hs2
    clear hvalB hvb hor
    generalize sel (fun x => x.2.1) x2 l = bs at *
    have hS2 := (hS.below hbt).drew
    have hT2 := hT.drew
    have hbt2 := hbt.drew
    generalize htb : wr.heap.size = tb at *
    have hS2_l := hS2.lt; have hS2_0 := hS2.cell 0; have hS2_1 := hS2.cell 1; have hS2_2 := hS2.cell 2; simp at hS2_0 hS2_1 hS2_2
    have hT2_l := hT2.lt; have hT2_0 := hT2.cell 0; have hT2_1 := hT2.cell 1; have hT2_2 := hT2.cell 2; simp at hT2_0 hT2_1 hT2_2
    go_upto_region 4 with (fail)
    (try simp only [htb])
    refine wp_region_held_drew (S := (fun wx => wx.cell? ⟨sb, 2, none⟩ = some (.map (some b2)) ∧ wx.cell? ⟨tb, 1, none⟩ = some (.string x2) ∧ (Instr.lookup 104 (.map (some b2)) (.string x2) false).run Tryz.prog wx = .ok (.slice bv bs.length capb) wx)) (by kernel_rfl) ?hS (fun hHeld => ?_)
    case hS => exact ⟨hS2_2, hT2_1, hlkB⟩
    refine rtake (i := 0) (d := (some 21)) (v := ?_) rfl (by kernel_rfl) (by kernel_rfl) (by kernel_rfl) (by kernel_rfl) (fun _ _ _ h => h) (by kernel_rfl) (by assumption) ?_ ?_
    rotate_left 1
    · (intro wI hSI; (try dsimp only at hSI); go_simp; (try with_reducible rfl))
    simp only [Act.put, List.setIfInBounds_toArray, List.set_cons_zero, List.set_cons_succ]
    refine rtake (i := 1) (d := (some 22)) (v := ?_) rfl (by kernel_rfl) (by kernel_rfl) (by kernel_rfl) (by kernel_rfl) (fun _ _ _ h => h) (by kernel_rfl) (by assumption) ?_ ?_
    rotate_left 1
    · (intro wI hSI; (try dsimp only at hSI); go_simp; (try with_reducible rfl))
    simp only [Act.put, List.setIfInBounds_toArray, List.set_cons_zero, List.set_cons_succ]
    refine rtake (i := 2) (d := (some 23)) (v := ?_) rfl (by kernel_rfl) (by kernel_rfl) (by kernel_rfl) (by kernel_rfl) (fun _ _ _ h => h) (by kernel_rfl) (by assumption) ?_ ?_
    rotate_left 1
    · (intro wI hSI; (try dsimp only at hSI); go_simp; (try with_reducible rfl))
    simp only [Act.put, List.setIfInBounds_toArray, List.set_cons_zero, List.set_cons_succ]
    refine rtake (i := 3) (d := (some 24)) (v := ?_) rfl (by kernel_rfl) (by kernel_rfl) (by kernel_rfl) (by kernel_rfl) (fun _ _ _ h => h) (by kernel_rfl) (by assumption) ?_ ?_
    rotate_left 1
    · (intro wI hSI; (try dsimp only at hSI); go_simp; (try with_reducible rfl))
    simp only [Act.put, List.setIfInBounds_toArray, List.set_cons_zero, List.set_cons_succ]
    refine rtake (i := 4) (d := (some 25)) (v := ?_) rfl (by kernel_rfl) (by kernel_rfl) (by kernel_rfl) (by kernel_rfl) (fun _ _ _ h => h) (by kernel_rfl) (by assumption) ?_ ?_
    rotate_left 1
    · (intro wI hSI; (try dsimp only at hSI); go_simp; (try with_reducible rfl))
    simp only [Act.put, List.setIfInBounds_toArray, List.set_cons_zero, List.set_cons_succ]
    refine rtake (i := 5) (d := (some 26)) (v := ?_) rfl (by kernel_rfl) (by kernel_rfl) (by kernel_rfl) (by kernel_rfl) (fun _ _ _ h => h) (by kernel_rfl) (by assumption) ?_ ?_
    rotate_left 1
    · (intro wI hSI; (try dsimp only at hSI); go_simp; (try with_reducible rfl))
    simp only [Act.put, List.setIfInBounds_toArray, List.set_cons_zero, List.set_cons_succ]
    refine rtake (i := 6) (d := (some 27)) (v := ?_) rfl (by kernel_rfl) (by kernel_rfl) (by kernel_rfl) (by kernel_rfl) (fun _ _ _ h => h) (by kernel_rfl) (by assumption) ?_ ?_
    rotate_left 1
    · (intro wI hSI; (try dsimp only at hSI); go_simp; (try with_reducible rfl))
    simp only [Act.put, List.setIfInBounds_toArray, List.set_cons_zero, List.set_cons_succ]
    refine rtake (i := 7) (d := (some 28)) (v := ?_) rfl (by kernel_rfl) (by kernel_rfl) (by kernel_rfl) (by kernel_rfl) (fun _ _ _ h => h) (by kernel_rfl) (by assumption) ?_ ?_
    rotate_left 1
    · (intro wI hSI; (try dsimp only at hSI); go_simp; (try with_reducible rfl))
    simp only [Act.put, List.setIfInBounds_toArray, List.set_cons_zero, List.set_cons_succ]
    refine rtake (i := 8) (d := (some 29)) (v := ?_) rfl (by kernel_rfl) (by kernel_rfl) (by kernel_rfl) (by kernel_rfl) (fun _ _ _ h => h) (by kernel_rfl) (by assumption) ?_ ?_
    rotate_left 1
    · (intro wI hSI; (try dsimp only at hSI); go_simp; (try with_reducible rfl))
    simp only [Act.put, List.setIfInBounds_toArray, List.set_cons_zero, List.set_cons_succ]
    refine rtake (i := 9) (d := (some 30)) (v := ?_) rfl (by kernel_rfl) (by kernel_rfl) (by kernel_rfl) (by kernel_rfl) (fun _ _ _ h => h) (by kernel_rfl) (by assumption) ?_ ?_
    rotate_left 1
    · (intro wI hSI; (try dsimp only at hSI); go_simp; (try with_reducible rfl))
    simp only [Act.put, List.setIfInBounds_toArray, List.set_cons_zero, List.set_cons_succ]
    refine wpAnyH_done (by kernel_rfl) ?_ _
    clear hS2_l hS2_0 hS2_1 hS2_2
    clear hT2_l hT2_0 hT2_1 hT2_2
    clear hlkB hS2 hHeld htb hb hbt hT c0 c1 c2
    generalize (wr.alloc (.cells #[.string x1, .string x2, .int .i64 x3] 54)).drew = wv at *
    go_wp2_with fail
    go_loopg [4, 5, 30] bs.length (fun gk nv mv i wx => ∃ j : Nat, i = .int .i64 j ∧ j ≤ bs.length ∧ Hid (gk = bs.length - j) ∧ nv = .int .i64 (n0 + ptsS x3 (oth p (bs.take j))) ∧ mv = .int .i64 (m0 + ((oth p (bs.take j)).length : Nat)) ∧ Below wv.heap.size wv wx)
    case atStart => exact ⟨0, rfl, by omega, rfl, by simp [oth, ptsS], by simp [oth], Below.refl _ _⟩
    obtain ⟨j, rfl, hj, hgj, rfl, rfl, hbx⟩ := hrel
    have hzx := hbx.size
    by_cases hjl : j < bs.length
    · obtain ⟨nb, noff, hb', d0, d1, d2⟩ := ((hsbv.below hbt2).below hbx).mark hjl
      have htake := List.take_succ_eq_append_getElem hjl
      have Hsj := Lib.hid (oth_snoc p (bs.take j) bs[j])
      rw [← htake] at Hsj
      have Hpj := Lib.hid (ptsS_snoc x3 (oth p (bs.take j)) bs[j])
      have hcj := oth_len p (bs.take j)
      rw [List.length_take] at hcj
      have hpj := ptsS_bd x3 (oth p (bs.take j))
      have HB := Lib.hid hb'
      rw [hb']
      generalize hy : bs[j] = y at *
      obtain ⟨y1, y2, y3⟩ := y
      simp only at d0 d1 d2 Hsj Hpj
      clear hy htake hb'
      generalize oth p (bs.take j) = os at *
      generalize hpp : ptsS x3 os = pp at *
      have Hpp := Lib.hid hpp
      clear hpp
      have hTx := hT2.below hbx
      have hbu : Below wv.heap.size wv (wr.alloc (.cells #[.string y1, .string y2, .int .i64 y3] 54)) := hbx.alloc hzx _
      have hcb := cmpI_bd x3 y3
      have HC := Lib.hid (fun W => Tryz.cmp_Compare_int x3 y3 W)
      rw [show Lib.compareInt x3 y3 = cmpI x3 y3 from rfl] at HC
      generalize cmpI x3 y3 = cz at *
      have hTx_l := hTx.lt; have hTx_0 := hTx.cell 0; have hTx_1 := hTx.cell 1; have hTx_2 := hTx.cell 2; simp at hTx_0 hTx_1 hTx_2
      by_cases hp : y1 = p
      · have e1 := tl_eq' hp
        have e2 := tl_eq hp
        have e3 : y1.toList = p.toList := by rw [hp]
        rw [if_pos hp] at Hsj
        clear hp HC
        go_wp2_with fail
        rw [← HB.out]
        go_roundg (bs.length - (j + 1))
        case measure => have := hgj.out; omega
        case rel => exact ⟨j + 1, by go_num, by omega, rfl, by rw [Hsj.out, Hpp.out], by rw [Hsj.out], hbu⟩
      · have e1 := tl_ne' hp
        have e2 := tl_ne hp
        have e3 : ¬ y1.toList = p.toList := fun h => hp (toList_inj.1 h)
        rw [if_neg hp] at Hsj
        clear hp
        go_wp2_with fail
        refine (HC.out _).mono ?_
        rintro e w'' ⟨rfl, rfl⟩
        go_wp2_with fail
        rw [← HB.out]
        go_roundg (bs.length - (j + 1))
        case measure => have := hgj.out; omega
        case rel => exact ⟨j + 1, by go_num, by omega, rfl, by rw [Hsj.out, Hpj.out]; congr 1; omega, by rw [Hsj.out, List.length_append]; congr 1; simp; omega, hbu⟩
    · obtain rfl : j = bs.length := by omega
      rw [List.take_length]
      have hbf := hbt2.trans (hbx.mono hbt2.size)
      clear hjl hgj
      go_wp2_with fail
      rw [← HA.out]
      go_roundg (ms.length - (k + 1))
      case measure => have := hgk.out; omega
      case rel => exact ⟨k + 1, by go_num, by omega, rfl, by rw [Hs1.out], by rw [Hs2.out], hbf⟩
  · obtain rfl : k = ms.length := by omega
    rw [List.take_length]
    clear hlt
    go_wp2_with fail
    go_ret2
    exact ⟨rfl, hb⟩
set_option maxRecDepth 100000 in
set_option maxHeartbeats 2000000 in
theorem pointsP_any (l : List Mark) (a : Option Addr) (cap : Nat) (w : World) (hs : SA w a l) (hl : l.length ≤ 400) (hks : ∀ x ∈ l, x.1.size ≤ 1000 ∧ x.2.1.size ≤ 1000) :
    Calls Tryz.prog 41 #[.slice a l.length cap] w (GivesList (pointsL l (keysOf (fun x => x.1) l)) (marksFault l) w) := by
  generalize hq : pointsL l (keysOf (fun x => x.1) l) = out at *
  have HO := Lib.hid hq
  clear hq
  go_enter Tryz.func41, Tryz.ntmps41
  go_wp2_with fail
  refine (checked_any l a cap _ hs (by omega) hks).mono ?_
  rintro e w1 ⟨hb1, h1⟩
  rcases h1 with ⟨h0, rfl⟩ | ⟨h0, sb, rfl, hsh, hsb⟩
  · have h0' : (marksFault l != 0) = true := by simpa using h0
    have H0 := Lib.hid h0
    clear h0
    go_wp2_with fail
    go_ret2
    exact ⟨hb1, none, 0, 0, rfl, by omega, fun h => absurd h H0.out⟩
  · obtain ⟨b1, b2, base, a', cap', es1, es2, hst, hsa'⟩ := hsh
    have hS := hst.box
    have H0 := Lib.hid h0
    clear h0
    have hS_l := hS.lt; have hS_0 := hS.cell 0; have hS_1 := hS.cell 1; have hS_2 := hS.cell 2; simp at hS_0 hS_1 hS_2
    go_wp2_with fail
    refine (keys_any b1 base (fun x => x.1) l es1 _ hst.one (by omega) (fun x hx => (hks x hx).1)).mono ?_
    rintro e wk ⟨vk, rfl, hownk, hbk⟩
    clear hS_l hS_0 hS_1 hS_2
    obtain ⟨aK, capK, rfl, hsaK, hbK, _⟩ := hownk.sa
    have hzk := hbk.size
    have HbK : Hid (∀ x : Addr, aK = some x → x.block < wk.heap.size) := fun x hx => (hbK x hx).2
    have hkl := keysOf_length (fun x => x.1) l
    clear hownk hbK hS
    generalize keysOf (fun x => x.1) l = ks at *
    go_wp2_with fail
    go_loopg [6, 25] ks.length (fun gk v i wr => ∃ k : Nat, i = .int .i64 k ∧ k ≤ ks.length ∧ Hid (gk = ks.length - k) ∧ Own wk.heap.size 79 wr v (pointsL l (ks.take k)) ∧ SA wr aK ks ∧ Below w1.heap.size w1 wr ∧ wk.heap.size ≤ wr.heap.size)
    case atStart => exact ⟨0, rfl, by omega, rfl, Own.nil _ _ _, hsaK, hbk, Nat.le_refl _⟩
    clear hsaK hbk
    obtain ⟨k, rfl, hk, hgk, hown, hsaK, hbr, hzr⟩ := hrel
    by_cases hlt : k < ks.length
    · obtain ⟨kb, koff, haK, ck⟩ := hsaK.str hlt
      have htake := List.take_succ_eq_append_getElem hlt
      have Hsl := Lib.hid (pointsL_snoc l (ks.take k) ks[k])
      rw [← htake] at Hsl
      have hsll : (pointsL l (ks.take k)).length ≤ 400 := by unfold pointsL; rw [List.length_map, List.length_take]; omega
      have HaK := Lib.hid haK
      rw [haK]
      clear haK htake
      generalize ks[k] = p at *
      generalize pointsL l (ks.take k) = vs at *
      have HP := Lib.hid (points_any sb b1 b2 base a' cap' l es1 es2 wr (hst.below hbr) H0.out hl p)
      generalize ptsN l p (ofP l p) = pn at *
      generalize ptsM l p (ofP l p) = pm at *
      go_wp2_with fail
      refine HP.out.mono ?_
      rintro e wl ⟨rfl, hbl⟩
      have hown2 := hown.below hbl
      have hsaK2 := hsaK.below hbl
      have hbr2 := hbr.trans (hbl.mono hbr.size)
      have hzl := hbl.size
      clear hown hsaK hbr
      have hown3 := hown2.alloc (.cells #[.string p, .int .i64 pn] 79)
      have hbo := Box.new wl 79 #[.string p, .int .i64 pn]
      have hsaK3 := hsaK2.alloc (.cells #[.string p, .int .i64 pn] 79)
      have hbr3 : Below w1.heap.size w1 (wl.alloc (.cells #[.string p, .int .i64 pn] 79)) := hbr2.alloc hbr2.size _
      go_wp2_with (at_builtin; refine wpList_append_lie (α := Skill) rfl _ _ 71 rfl 79 24 (.agg #[.string ⟨#[]⟩, .int .i64 0]) Tryz.underlying71 Tryz.infoLevel rfl u6 vs rfl hown3 (p, pn) wl.heap.size rfl hbo (by omega) (by omega) (by simp; omega) ?_; intro gg cap1 W4 hown4 hgrow hat)
      have hbr4 : Below w1.heap.size w1 W4 := hbr3.grown hgrow hbr3.size (fun j hj => by have := (hown3.lt j hj).1; omega)
      have hsaK4 := hsaK3.grownS hgrow (fun x hx e => by have := (hown3.lt _ e.symm).1; have := HbK.out x hx; omega)
      have hz4 := hgrow.size
      simp at hz4
      go_wp2_with fail
      rw [← HaK.out]
      go_roundg (ks.length - (k + 1))
      case measure => have := hgk.out; omega
      case rel => exact ⟨k + 1, by go_num, by omega, rfl, by rw [Hsl.out]; exact hown4, hsaK4, hbr4, by omega⟩
    · obtain rfl : k = ks.length := by omega
      rw [List.take_length, HO.out] at hown
      obtain ⟨ao, capo, rfl, hsao, _, _⟩ := hown.sa
      have hol : out.length ≤ 400 := by rw [← HO.out]; unfold pointsL; rw [List.length_map]; omega
      clear hlt hown
      go_wp2_with fail
      go_ret2
      exact ⟨hb1.trans (hbr.mono hb1.size), ao, _, capo, by rw [H0.out] <;> rfl, by omega, fun _ => ⟨rfl, hsao⟩⟩
set_option maxRecDepth 100000 in
set_option maxHeartbeats 2000000 in
theorem pointsOf_any (l : List Mark) (a : Option Addr) (cap : Nat) (p : ByteArray) (w : World) (hs : SA w a l) (hl : l.length ≤ 400) :
    Calls Tryz.prog 99 #[.slice a l.length cap, .string p] w (Gives (.tuple #[.int .i64 (ptsN l p (ofP l p)), .int .i64 (ptsM l p (ofP l p))]) w) := by
  go_enter Tryz.func99, Tryz.ntmps99
  go_wp2_with fail
  go_loopg [4, 5, 12] l.length (fun gk nv mv i wr => ∃ k : Nat, i = .int .i64 k ∧ k ≤ l.length ∧ Hid (gk = l.length - k) ∧ nv = .int .i64 (ptsN l p (ofP (l.take k) p)) ∧ mv = .int .i64 (ptsM l p (ofP (l.take k) p)) ∧ Below w.heap.size w wr)
  case atStart => exact ⟨0, rfl, by omega, rfl, rfl, rfl, Below.refl _ _⟩
  case round =>
    obtain ⟨k, rfl, hk, hgk, rfl, rfl, hb⟩ := hrel
    have hzr := hb.size
    by_cases hlt : k < l.length
    · obtain ⟨mb, moff, ha', c0, c1, c2⟩ := (hs.below hb).mark hlt
      have htake := List.take_succ_eq_append_getElem hlt
      have Hsn := Lib.hid (sel_snoc (fun x => x.1) p (l.take k) l[k])
      rw [← htake] at Hsn
      have Hs1 := Lib.hid (ptsN_snoc l p (sel (fun x => x.1) p (l.take k)) l[k])
      have Hs2 := Lib.hid (ptsM_snoc l p (sel (fun x => x.1) p (l.take k)) l[k])
      have hpb := pts_bd l hl p (sel (fun x => x.1) p (l.take k))
      have hsl := sel_len (fun x => x.1) p (l.take k)
      rw [List.length_take] at hsl
      have HA := Lib.hid ha'
      unfold ofP at *
      rw [ha']
      generalize hx : l[k] = x at *
      obtain ⟨x1, x2, x3⟩ := x
      simp only at c0 c1 c2 Hs1 Hs2 Hsn
      clear hx htake ha'
      generalize hse : sel (fun x => x.1) p (l.take k) = se at *
      clear hse
      generalize hn0 : ptsN l p se = n0 at *
      generalize hm0 : ptsM l p se = m0 at *
      have Hn0 := Lib.hid hn0
      have Hm0 := Lib.hid hm0
      clear hn0 hm0
      have hbt : Below w.heap.size w (wr.alloc (.cells #[.string x1, .string x2, .int .i64 x3] 54)) := hb.alloc hzr _
      have hT := Box.new wr 54 #[.string x1, .string x2, .int .i64 x3]
      by_cases hp1 : x1 = p
      · have e1 := tl_eq' hp1
        have e2 := tl_eq hp1
        have e3 : x1.toList = p.toList := by rw [hp1]
        rw [if_pos hp1] at Hsn
        clear hp1
        generalize hWv : wr.alloc (.cells #[.string x1, .string x2, .int .i64 x3] 54) = wv at *
        generalize htb : wr.heap.size = tb at *
        have hT_l := hT.lt; have hT_0 := hT.cell 0; have hT_1 := hT.cell 1; have hT_2 := hT.cell 2; simp at hT_0 hT_1 hT_2
        go_upto_region 5 with (fail)
        (try simp only [hWv, htb])
        clear hT_l hT_0 hT_1 hT_2
        clear hWv htb hb c0 c1 c2
        go_wp2_with fail
        go_loopg [4, 5, 23] l.length (fun gk nv mv i wx => ∃ j : Nat, i = .int .i64 j ∧ j ≤ l.length ∧ Hid (gk = l.length - j) ∧ nv = .int .i64 (n0 + ptsS x3 (rest (l.take j) x2 p)) ∧ mv = .int .i64 (m0 + ((rest (l.take j) x2 p).length : Nat)) ∧ Below wv.heap.size wv wx)
        case atStart => exact ⟨0, rfl, by omega, rfl, by simp [rest, ptsS], by simp [rest], Below.refl _ _⟩
        obtain ⟨j, rfl, hj, hgj, rfl, rfl, hbx⟩ := hrel
        have hzx := hbx.size
        by_cases hjl : j < l.length
        · obtain ⟨nb, noff, hb', d0, d1, d2⟩ := ((hs.below hbt).below hbx).mark hjl
          have htake := List.take_succ_eq_append_getElem hjl
          have Hsj := Lib.hid (rest_snoc (l.take j) x2 p l[j])
          rw [← htake] at Hsj
          have Hpj := Lib.hid (ptsS_snoc x3 (rest (l.take j) x2 p) l[j])
          have hcj := rest_len (l.take j) x2 p
          rw [List.length_take] at hcj
          have hpj := ptsS_bd x3 (rest (l.take j) x2 p)
          have HB := Lib.hid hb'
          rw [HA.out] at hb'
          cases hb'
          generalize hy : l[j] = y at *
          obtain ⟨y1, y2, y3⟩ := y
          simp only at d0 d1 d2 Hsj Hpj
          clear hy htake
          generalize rest (l.take j) x2 p = os at *
          generalize hpp : ptsS x3 os = pp at *
          have Hpp := Lib.hid hpp
          clear hpp
          have hTx := hT.below hbx
          have hbu : Below wv.heap.size wv (wr.alloc (.cells #[.string y1, .string y2, .int .i64 y3] 54)) := hbx.alloc hzx _
          have hcb := cmpI_bd x3 y3
          have HC := Lib.hid (fun W => Tryz.cmp_Compare_int x3 y3 W)
          rw [show Lib.compareInt x3 y3 = cmpI x3 y3 from rfl] at HC
          generalize cmpI x3 y3 = cz at *
          have hTx_l := hTx.lt; have hTx_0 := hTx.cell 0; have hTx_1 := hTx.cell 1; have hTx_2 := hTx.cell 2; simp at hTx_0 hTx_1 hTx_2
          by_cases hp2 : y2 = x2
          · have f2 := tl_eq hp2
            by_cases hq : y1 = p
            · have g1 := tl_eq' hq
              have g2 := tl_eq hq
              have g3 : y1.toList = p.toList := by rw [hq]
              rw [if_neg (by simp [hq])] at Hsj
              clear hp2 hq HC
              go_wp2_with fail
              go_roundg (l.length - (j + 1))
              case measure => have := hgj.out; omega
              case rel => exact ⟨j + 1, by go_num, by omega, rfl, by rw [Hsj.out, Hpp.out], by rw [Hsj.out], hbu⟩
            · have g1 := tl_ne' hq
              have g2 := tl_ne hq
              have g3 : ¬ y1.toList = p.toList := fun h => hq (toList_inj.1 h)
              rw [if_pos ⟨hp2, hq⟩] at Hsj
              clear hp2 hq
              go_wp2_with fail
              refine (HC.out _).mono ?_
              rintro e w'' ⟨rfl, rfl⟩
              go_wp2_with fail
              go_roundg (l.length - (j + 1))
              case measure => have := hgj.out; omega
              case rel => exact ⟨j + 1, by go_num, by omega, rfl, by rw [Hsj.out, Hpj.out]; congr 1; omega, by rw [Hsj.out, List.length_append]; congr 1; simp; omega, hbu⟩
          · have f2 := tl_ne hp2
            rw [if_neg (by simp [hp2])] at Hsj
            clear hp2 HC
            go_wp2_with fail
            go_roundg (l.length - (j + 1))
            case measure => have := hgj.out; omega
            case rel => exact ⟨j + 1, by go_num, by omega, rfl, by rw [Hsj.out, Hpp.out], by rw [Hsj.out], hbu⟩
        · obtain rfl : j = l.length := by omega
          rw [List.take_length]
          have hbf := hbt.trans (hbx.mono hbt.size)
          clear hjl hgj
          go_wp2_with fail
          rw [← HA.out]
          go_roundg (l.length - (k + 1))
          case measure => have := hgk.out; omega
          case rel => exact ⟨k + 1, by go_num, by omega, rfl, by rw [Hsn.out, Hs1.out], by rw [Hsn.out, Hs2.out], hbf⟩
      · have e1 := tl_ne' hp1
        have e2 := tl_ne hp1
        have e3 : ¬ x1.toList = p.toList := fun h => hp1 (toList_inj.1 h)
        rw [if_neg hp1] at Hsn
        clear hp1
        go_wp2_with fail
        rw [← HA.out]
        go_roundg (l.length - (k + 1))
        case measure => have := hgk.out; omega
        case rel => exact ⟨k + 1, by go_num, by omega, rfl, by rw [Hsn.out, Hn0.out], by rw [Hsn.out, Hm0.out], hbt⟩
    · obtain rfl : k = l.length := by omega
      rw [List.take_length]
      clear hlt
      go_wp2_with fail
      go_ret2
      exact ⟨rfl, hb⟩
set_option maxRecDepth 100000 in
set_option maxHeartbeats 2000000 in
theorem pointsOfL_any (l : List Mark) (a : Option Addr) (cap : Nat) (w : World) (hs : SA w a l) (hl : l.length ≤ 400) :
    Calls Tryz.prog 46 #[.slice a l.length cap] w (GivesOwn 79 (pointsL l (keysOf (fun x => x.1) l)) w) := by
  generalize hq : pointsL l (keysOf (fun x => x.1) l) = out at *
  have HO := Lib.hid hq
  clear hq
  go_enter Tryz.func46, Tryz.ntmps46
  go_wp2_with fail
  refine (MarkedPapers_any l a cap _ hs (by omega)).mono ?_
  rintro e wk ⟨vk, rfl, hownk, hbk⟩
  obtain ⟨aK, capK, rfl, hsaK, hbK, _⟩ := hownk.sa
  have hzk := hbk.size
  have HbK : Hid (∀ x : Addr, aK = some x → x.block < wk.heap.size) := fun x hx => (hbK x hx).2
  have hkl := keysOf_length (fun x => x.1) l
  clear hownk hbK
  generalize keysOf (fun x => x.1) l = ks at *
  go_wp2_with fail
  go_loopg [3, 11] ks.length (fun gk v i wr => ∃ k : Nat, i = .int .i64 k ∧ k ≤ ks.length ∧ Hid (gk = ks.length - k) ∧ Own wk.heap.size 79 wr v (pointsL l (ks.take k)) ∧ SA wr aK ks ∧ Below w.heap.size w wr ∧ wk.heap.size ≤ wr.heap.size)
  case atStart => exact ⟨0, rfl, by omega, rfl, Own.nil _ _ _, hsaK, hbk, Nat.le_refl _⟩
  clear hsaK hbk
  obtain ⟨k, rfl, hk, hgk, hown, hsaK, hbr, hzr⟩ := hrel
  by_cases hlt : k < ks.length
  · obtain ⟨kb, koff, haK, ck⟩ := hsaK.str hlt
    have htake := List.take_succ_eq_append_getElem hlt
    have Hsl := Lib.hid (pointsL_snoc l (ks.take k) ks[k])
    rw [← htake] at Hsl
    have hsll : (pointsL l (ks.take k)).length ≤ 400 := by unfold pointsL; rw [List.length_map, List.length_take]; omega
    have HaK := Lib.hid haK
    rw [haK]
    clear haK htake
    generalize ks[k] = p at *
    generalize pointsL l (ks.take k) = vs at *
    have HP := Lib.hid (pointsOf_any l a cap p wr (hs.below hbr) hl)
    generalize ptsN l p (ofP l p) = pn at *
    generalize ptsM l p (ofP l p) = pm at *
    go_wp2_with fail
    refine HP.out.mono ?_
    rintro e wl ⟨rfl, hbl⟩
    have hown2 := hown.below hbl
    have hsaK2 := hsaK.below hbl
    have hbr2 := hbr.trans (hbl.mono hbr.size)
    have hzl := hbl.size
    clear hown hsaK hbr
    have hown3 := hown2.alloc (.cells #[.string p, .int .i64 pn] 79)
    have hbo := Box.new wl 79 #[.string p, .int .i64 pn]
    have hsaK3 := hsaK2.alloc (.cells #[.string p, .int .i64 pn] 79)
    have hbr3 : Below w.heap.size w (wl.alloc (.cells #[.string p, .int .i64 pn] 79)) := hbr2.alloc hbr2.size _
    go_wp2_with (at_builtin; refine wpList_append_lie (α := Skill) rfl _ _ 71 rfl 79 24 (.agg #[.string ⟨#[]⟩, .int .i64 0]) Tryz.underlying71 Tryz.infoLevel rfl u3 vs rfl hown3 (p, pn) wl.heap.size rfl hbo (by omega) (by omega) (by simp; omega) ?_; intro gg cap1 W4 hown4 hgrow hat)
    have hbr4 : Below w.heap.size w W4 := hbr3.grown hgrow hbr3.size (fun j hj => by have := (hown3.lt j hj).1; omega)
    have hsaK4 := hsaK3.grownS hgrow (fun x hx e => by have := (hown3.lt _ e.symm).1; have := HbK.out x hx; omega)
    have hz4 := hgrow.size
    simp at hz4
    go_wp2_with fail
    rw [← HaK.out]
    go_roundg (ks.length - (k + 1))
    case measure => have := hgk.out; omega
    case rel => exact ⟨k + 1, by go_num, by omega, rfl, by rw [Hsl.out]; exact hown4, hsaK4, hbr4, by omega⟩
  · obtain rfl : k = ks.length := by omega
    rw [List.take_length, HO.out] at hown
    clear hlt
    go_wp2_with fail
    go_ret
    exact ⟨_, rfl, hown.mono hzk, hbr⟩
end Go.Proofs.YtaoomkkhpianlaaGreatDoor
