/- Marks that differ much from others. -/
import Derived.Test.YtaoomkkhpianlaaGreatDoorStrict3
namespace Go.Proofs.YtaoomkkhpianlaaGreatDoor
open Go.RowKit Go.Sort
set_option linter.unusedVariables false
set_option linter.unusedSimpArgs false

/-- A mark that differs much. -/
def outP (l : List Mark) (least : Int) (m : Mark) : Bool := decide (1 < (ofP l m.1).length) && decide (least * beyD l m ≤ max (beyN l m) (-(beyN l m)))
theorem filter_snoc {α : Type} (p : α → Bool) (l : List α) (x : α) : (l ++ [x]).filter p = if p x = true then l.filter p ++ [x] else l.filter p := by
  rw [List.filter_append, List.filter_cons]
  cases p x <;> simp
theorem out_ref (l : List Mark) (least : Int) (m : Mark) (h1 : 1 < (ofP l m.1).length) : least * beyD l m ≤ max (beyN l m) (-(beyN l m)) ↔ least * othD l m ≤ max (m.2.2 * othD l m - othN l m) (othN l m - m.2.2 * othD l m) :=
  far_ref m.2.2 (sum1 (ofP l m.1)) (((ofP l m.1).length : Int) - 1) least (by omega)
/-- The error of Outliers. -/
def outE (l : List Mark) (least : Int) : Int := if marksFault l ≠ 0 then marksFault l else if least < 1 ∨ 10 < least then 1 else 0

set_option maxRecDepth 100000 in
set_option maxHeartbeats 2000000 in
theorem outliers_any (l : List Mark) (a : Option Addr) (cap : Nat) (least : Int) (w : World) (hs : SA w a l) (hl : l.length ≤ 400) (hks : ∀ x ∈ l, x.1.size ≤ 1000 ∧ x.2.1.size ≤ 1000) :
    Calls Tryz.prog 20 #[.slice a l.length cap, .int .i64 least] w (GivesList (l.filter (outP l least)) (outE l least) w) := by
  generalize hq : l.filter (outP l least) = out at *
  have HO := Lib.hid hq
  clear hq
  have HE1 : Hid (marksFault l ≠ 0 → outE l least = marksFault l) := fun h => by unfold outE; rw [if_pos h]
  have HE2 : Hid (marksFault l = 0 → outE l least = if least < 1 ∨ 10 < least then 1 else 0) := fun h => by unfold outE; rw [if_neg (by simpa using h)]
  generalize outE l least = oe at *
  go_enter Tryz.func20, Tryz.ntmps20
  go_wp2_with fail
  refine (checked_any l a cap _ hs (by omega) hks).mono ?_
  rintro e w1 ⟨hb1, h1⟩
  rcases h1 with ⟨h0, rfl⟩ | ⟨h0, sb, rfl, hsh, hsb⟩
  · have h0' : (marksFault l != 0) = true := by simpa using h0
    have H0 := Lib.hid h0
    have HE := Lib.hid (HE1.out h0)
    clear h0
    go_wp2_with fail
    go_ret2
    exact ⟨hb1, none, 0, 0, by rw [HE.out] <;> rfl, by omega, fun h => absurd (HE.out.symm.trans h) H0.out⟩
  · obtain ⟨b1, b2, base, a', cap', es1, es2, hst, hsa'⟩ := hsh
    have H0 := Lib.hid h0
    have HE := Lib.hid (HE2.out h0)
    clear h0
    by_cases hle : least < 1 ∨ 10 < least
    · rw [if_pos hle] at HE
      have Hle := Lib.hid hle
      have hc := outside_any least 1 10 w1
      rw [show (decide (least < 1) || decide (10 < least)) = true by simpa using hle] at hc
      clear hle
      go_wp2_with fail
      refine hc.mono ?_
      rintro e w2 ⟨rfl, rfl⟩
      go_wp2_with fail
      go_ret2
      exact ⟨hb1, none, 0, 0, by rw [HE.out] <;> rfl, by omega, fun h => by rw [HE.out] at h; cases h⟩
    · rw [if_neg hle] at HE
      have hc := outside_any least 1 10 w1
      rw [show (decide (least < 1) || decide (10 < least)) = false by simpa using hle] at hc
      have hle1 : 1 ≤ least ∧ least ≤ 10 := by omega
      clear hle
      go_wp2_with fail
      refine hc.mono ?_
      rintro e w2 ⟨rfl, rfl⟩
      have hs1 := hs.below hb1
      go_wp2_with fail
      go_loopg [8, 25] l.length (fun gk v i wr => ∃ k : Nat, i = .int .i64 k ∧ k ≤ l.length ∧ Hid (gk = l.length - k) ∧ Own w1.heap.size 54 wr v ((l.take k).filter (outP l least)) ∧ Below w1.heap.size w1 wr)
      case atStart => exact ⟨0, rfl, by omega, rfl, Own.nil _ _ _, Below.refl _ _⟩
      obtain ⟨k, rfl, hk, hgk, hown, hbr⟩ := hrel
      have hzr := hbr.size
      by_cases hlt : k < l.length
      · obtain ⟨mb, moff, ha', c0, c1, c2⟩ := (hs1.below hbr).mark hlt
        have htake := List.take_succ_eq_append_getElem hlt
        have Hsn := Lib.hid (filter_snoc (outP l least) (l.take k) l[k])
        rw [← htake] at Hsn
        have hfl : ((l.take k).filter (outP l least)).length ≤ 400 := by have := List.length_filter_le (outP l least) (l.take k); rw [List.length_take] at this; omega
        have hxl := List.getElem_mem hlt
        have HA := Lib.hid ha'
        rw [ha']
        generalize hx : l[k] = x at *
        obtain ⟨x1, x2, x3⟩ := x
        simp only at c0 c1 c2
        clear hx htake ha'
        have HBV := Lib.hid (fun W (h : Below w1.heap.size w1 W) => beyond_any sb b1 b2 base a' cap' l es1 es2 W (hst.below h) H0.out x1 x2 x3 hxl)
        have HBD := Lib.hid (fun h => bey_bd H0.out hxl h)
        have hbt : Below w1.heap.size w1 (wr.alloc (.cells #[.string x1, .string x2, .int .i64 x3] 54)) := hbr.alloc hzr _
        have hTt := Box.new wr 54 #[.string x1, .string x2, .int .i64 x3]
        have hownt := hown.alloc (.cells #[.string x1, .string x2, .int .i64 x3] 54)
        have HP := Lib.hid (show outP l least (x1, x2, x3) = (decide (1 < (ofP l x1).length) && decide (least * beyD l (x1, x2, x3) ≤ max (beyN l (x1, x2, x3)) (-(beyN l (x1, x2, x3))))) from rfl)
        unfold beyV at HBV
        simp only at HBV HBD Hsn
        generalize outP l least (x1, x2, x3) = pb at *
        generalize hls : (l.take k).filter (outP l least) = ls at *
        have Hls := Lib.hid hls
        clear hls hown hbr hxl
        by_cases hbig : 1 < (ofP l x1).length
        · rw [if_pos hbig] at HBV
          have hbd := HBD.out hbig
          generalize beyN l (x1, x2, x3) = q1 at *
          generalize beyD l (x1, x2, x3) = q2 at *
          have hm1 := mul_in (x := least) (y := q2) (X := 10) (Y := 12) (by omega) (by omega) (by omega) (by omega)
          have hw1 : IntKind.i64.wrap (least * q2) = least * q2 := IntWalk.i64_in _ (by omega)
          have hw2 : IntKind.i64.wrap (-q1) = -q1 := IntWalk.i64_in _ (by omega)
          clear hbd HBD
          by_cases hfar : least * q2 ≤ max q1 (-q1)
          · have hpb : pb = true := by rw [HP.out, decide_eq_true hbig, decide_eq_true hfar]; rfl
            subst hpb
            rw [if_pos rfl] at Hsn
            clear hbig HP
            go_wp2_with fail
            refine (HBV.out _ hbt).mono ?_
            rintro e wa ⟨rfl, hba⟩
            have hTa := (hTt.below hba).alloc (.cells #[.int .i64 q1, .int .i64 q2] 30)
            have hG := Box.new wa 30 #[.int .i64 q1, .int .i64 q2]
            have hbza : Below w1.heap.size w1 (wa.alloc (.cells #[.int .i64 q1, .int .i64 q2] 30)) := (hbt.trans (hba.mono hbt.size)).alloc (by have := (hbt.trans (hba.mono hbt.size)).size; exact this) _
            have howna := (hownt.below hba).alloc (.cells #[.int .i64 q1, .int .i64 q2] 30)
            go_upto_region 11 with (fail)
            generalize wa.alloc (.cells #[.int .i64 q1, .int .i64 q2] 30) = W1 at *
            generalize wa.heap.size = g1 at *
            generalize wr.heap.size = tb at *
            clear hbt hba HBV c0 c1 c2 hTt hownt
            have hzW := hbza.size
            have hTa_l := hTa.lt; have hTa_0 := hTa.cell 0; have hTa_1 := hTa.cell 1; have hTa_2 := hTa.cell 2; simp at hTa_0 hTa_1 hTa_2
            have hG_l := hG.lt; have hG_0 := hG.cell 0; have hG_1 := hG.cell 1; simp at hG_0 hG_1
            have hown3 := howna.alloc (.cells #[.string x1, .string x2, .int .i64 x3] 54)
            have hbo := Box.new W1 54 #[.string x1, .string x2, .int .i64 x3]
            go_wp2_with (at_builtin; refine wpList_append_lie (α := Mark) rfl _ _ 26 rfl 54 40 (.agg #[.string ⟨#[]⟩, .string ⟨#[]⟩, .int .i64 0]) Tryz.underlying26 Tryz.infoMark rfl u8 ls rfl hown3 (x1, x2, x3) W1.heap.size rfl hbo (by omega) (by omega) (by simp; omega) ?_; intro gg cap1 W4 hown4 hgrow hat)
            have hbr4 : Below w1.heap.size w1 W4 := (hbza.alloc hzW (.cells #[.string x1, .string x2, .int .i64 x3] 54)).grown hgrow (by simp; omega) (fun j hj => (hown3.lt j hj).1)
            clear hTa_l hTa_0 hTa_1 hTa_2
            clear hG_l hG_0 hG_1
            go_wp2_with fail
            rw [← HA.out]
            go_roundg (l.length - (k + 1))
            case measure => have := hgk.out; omega
            case rel => exact ⟨k + 1, by go_num, by omega, rfl, by rw [Hsn.out]; exact hown4, hbr4⟩
          · have hpb : pb = false := by rw [HP.out, decide_eq_false hfar, Bool.and_false]
            subst hpb
            rw [if_neg (by simp)] at Hsn
            clear hbig HP
            go_wp2_with fail
            refine (HBV.out _ hbt).mono ?_
            rintro e wa ⟨rfl, hba⟩
            have hTa := (hTt.below hba).alloc (.cells #[.int .i64 q1, .int .i64 q2] 30)
            have hG := Box.new wa 30 #[.int .i64 q1, .int .i64 q2]
            have hbza : Below w1.heap.size w1 (wa.alloc (.cells #[.int .i64 q1, .int .i64 q2] 30)) := (hbt.trans (hba.mono hbt.size)).alloc (by have := (hbt.trans (hba.mono hbt.size)).size; exact this) _
            have howna := (hownt.below hba).alloc (.cells #[.int .i64 q1, .int .i64 q2] 30)
            go_upto_region 11 with (fail)
            generalize wa.alloc (.cells #[.int .i64 q1, .int .i64 q2] 30) = W1 at *
            generalize wa.heap.size = g1 at *
            generalize wr.heap.size = tb at *
            clear hbt hba HBV c0 c1 c2 hTt hownt
            have hzW := hbza.size
            have hTa_l := hTa.lt; have hTa_0 := hTa.cell 0; have hTa_1 := hTa.cell 1; have hTa_2 := hTa.cell 2; simp at hTa_0 hTa_1 hTa_2
            have hG_l := hG.lt; have hG_0 := hG.cell 0; have hG_1 := hG.cell 1; simp at hG_0 hG_1
            go_wp2_with fail
            rw [← HA.out]
            go_roundg (l.length - (k + 1))
            case measure => have := hgk.out; omega
            case rel => exact ⟨k + 1, by go_num, by omega, rfl, by rw [Hsn.out]; exact howna, hbza⟩
        · have hpb : pb = false := by rw [HP.out, decide_eq_false hbig, Bool.false_and]
          subst hpb
          rw [if_neg (by simp)] at Hsn
          rw [if_neg hbig] at HBV
          clear hbig HP HBD
          go_wp2_with fail
          refine (HBV.out _ hbt).mono ?_
          rintro e wa ⟨rfl, hba⟩
          have hTa := (hTt.below hba).alloc (.cells #[.int .i64 0, .int .i64 0] 30)
          have hG := Box.new wa 30 #[.int .i64 0, .int .i64 0]
          have hbza : Below w1.heap.size w1 (wa.alloc (.cells #[.int .i64 0, .int .i64 0] 30)) := (hbt.trans (hba.mono hbt.size)).alloc (by have := (hbt.trans (hba.mono hbt.size)).size; exact this) _
          have howna := (hownt.below hba).alloc (.cells #[.int .i64 0, .int .i64 0] 30)
          go_upto_region 11 with (fail)
          generalize wa.alloc (.cells #[.int .i64 0, .int .i64 0] 30) = W1 at *
          generalize wa.heap.size = g1 at *
          generalize wr.heap.size = tb at *
          clear hbt hba HBV c0 c1 c2 hTt hownt
          have hzW := hbza.size
          have hTa_l := hTa.lt; have hTa_0 := hTa.cell 0; have hTa_1 := hTa.cell 1; have hTa_2 := hTa.cell 2; simp at hTa_0 hTa_1 hTa_2
          have hG_l := hG.lt; have hG_0 := hG.cell 0; have hG_1 := hG.cell 1; simp at hG_0 hG_1
          go_wp2_with fail
          rw [← HA.out]
          go_roundg (l.length - (k + 1))
          case measure => have := hgk.out; omega
          case rel => exact ⟨k + 1, by go_num, by omega, rfl, by rw [Hsn.out]; exact howna, hbza⟩
      · obtain rfl : k = l.length := by omega
        rw [List.take_length, HO.out] at hown
        have hol : out.length ≤ 400 := by rw [← HO.out]; have := List.length_filter_le (outP l least) l; omega
        obtain ⟨ao, capo, rfl, hsao, _, _⟩ := hown.sa
        clear hlt hown
        go_wp2_with fail
        go_ret2
        exact ⟨hb1.trans (hbr.mono hb1.size), ao, _, capo, by rw [HE.out] <;> rfl, by omega, fun _ => ⟨rfl, hsao⟩⟩
set_option maxRecDepth 100000 in
set_option maxHeartbeats 2000000 in
theorem outliersOf_any (l : List Mark) (a : Option Addr) (cap : Nat) (least : Int) (w : World) (hs : SA w a l) (hl : l.length ≤ 400) (h0 : marksFault l = 0) (hle1 : 1 ≤ least ∧ least ≤ 10) :
    Calls Tryz.prog 26 #[.slice a l.length cap, .int .i64 least] w (GivesOwn 54 (l.filter (outP l least)) w) := by
  generalize hq : l.filter (outP l least) = out at *
  have HO := Lib.hid hq
  have H0 := Lib.hid h0
  clear hq h0
  obtain ⟨w1, rfl⟩ : ∃ w1 : World, w1 = w := ⟨_, rfl⟩
  go_enter Tryz.func26, Tryz.ntmps26
  go_wp2_with fail
  go_loopg [5, 12] l.length (fun gk v i wr => ∃ k : Nat, i = .int .i64 k ∧ k ≤ l.length ∧ Hid (gk = l.length - k) ∧ Own w1.heap.size 54 wr v ((l.take k).filter (outP l least)) ∧ Below w1.heap.size w1 wr)
  case atStart => exact ⟨0, rfl, by omega, rfl, Own.nil _ _ _, Below.refl _ _⟩
  case round =>
    obtain ⟨k, rfl, hk, hgk, hown, hbr⟩ := hrel
    have hzr := hbr.size
    by_cases hlt : k < l.length
    · obtain ⟨mb, moff, ha', c0, c1, c2⟩ := (hs.below hbr).mark hlt
      have htake := List.take_succ_eq_append_getElem hlt
      have Hsn := Lib.hid (filter_snoc (outP l least) (l.take k) l[k])
      rw [← htake] at Hsn
      have hfl : ((l.take k).filter (outP l least)).length ≤ 400 := by have := List.length_filter_le (outP l least) (l.take k); rw [List.length_take] at this; omega
      have hxl := List.getElem_mem hlt
      have hsx := fault_scores H0.out _ hxl
      have HA := Lib.hid ha'
      rw [ha']
      generalize hx : l[k] = x at *
      obtain ⟨x1, x2, x3⟩ := x
      simp only at c0 c1 c2 hsx
      clear hx htake
      have HBV0 := Lib.hid (fun W (h : SA W (some ⟨mb, moff, none⟩) l) => othersMean_any l (some ⟨mb, moff, none⟩) cap W h hl H0.out x1 x2 x3 hxl)
      have HBV : Hid (∀ W, Below w1.heap.size w1 W → _) := fun W (h : Below w1.heap.size w1 W) => HBV0.out W (by rw [← HA.out]; exact hs.below h)
      have HBD := Lib.hid (fun h => oth_bd H0.out hxl h)
      have HOR := Lib.hid (fun h => out_ref l least (x1, x2, x3) h)
      have hbt : Below w1.heap.size w1 (wr.alloc (.cells #[.string x1, .string x2, .int .i64 x3] 54)) := hbr.alloc hzr _
      have hTt := Box.new wr 54 #[.string x1, .string x2, .int .i64 x3]
      have hownt := hown.alloc (.cells #[.string x1, .string x2, .int .i64 x3] 54)
      have HP := Lib.hid (show outP l least (x1, x2, x3) = (decide (1 < (ofP l x1).length) && decide (least * beyD l (x1, x2, x3) ≤ max (beyN l (x1, x2, x3)) (-(beyN l (x1, x2, x3))))) from rfl)
      clear ha' HBV0
      unfold othV at HBV
      simp only at HBV HBD Hsn HOR
      generalize outP l least (x1, x2, x3) = pb at *
      generalize hls : (l.take k).filter (outP l least) = ls at *
      have Hls := Lib.hid hls
      clear hls hown hbr hxl
      by_cases hbig : 1 < (ofP l x1).length
      · rw [if_pos hbig] at HBV
        have hbd := HBD.out hbig
        have HP2 : Hid (pb = decide (least * othD l (x1, x2, x3) ≤ max (x3 * othD l (x1, x2, x3) - othN l (x1, x2, x3)) (othN l (x1, x2, x3) - x3 * othD l (x1, x2, x3)))) := by
          show _ = _
          rw [HP.out, decide_eq_true hbig, Bool.true_and, decide_eq_decide]; exact HOR.out hbig
        generalize othN l (x1, x2, x3) = q1 at *
        generalize othD l (x1, x2, x3) = q2 at *
        have hm1 := mul_in (x := least) (y := q2) (X := 10) (Y := 12) (by omega) (by omega) (by omega) (by omega)
        have hm2 := mul_in (x := x3) (y := q2) (X := 10) (Y := 12) (by omega) (by omega) (by omega) (by omega)
        have hw1 : IntKind.i64.wrap (least * q2) = least * q2 := IntWalk.i64_in _ (by omega)
        have hw2 : IntKind.i64.wrap (x3 * q2) = x3 * q2 := IntWalk.i64_in _ (by omega)
        have hw3 : IntKind.i64.wrap (x3 * q2 - q1) = x3 * q2 - q1 := IntWalk.i64_in _ (by omega)
        have hw4 : IntKind.i64.wrap (q1 - x3 * q2) = q1 - x3 * q2 := IntWalk.i64_in _ (by omega)
        clear hbd HBD HOR HP
        by_cases hfar : least * q2 ≤ max (x3 * q2 - q1) (q1 - x3 * q2)
        · have hpb : pb = true := by rw [HP2.out, decide_eq_true hfar]
          subst hpb
          rw [if_pos rfl] at Hsn
          clear hbig HP2
          go_wp2_with fail
          refine (HBV.out _ hbt).mono ?_
          rintro e wa ⟨rfl, hba⟩
          have hTa := (hTt.below hba).alloc (.cells #[.int .i64 q1, .int .i64 q2] 30)
          have hG := Box.new wa 30 #[.int .i64 q1, .int .i64 q2]
          have hbza : Below w1.heap.size w1 (wa.alloc (.cells #[.int .i64 q1, .int .i64 q2] 30)) := (hbt.trans (hba.mono hbt.size)).alloc (by have := (hbt.trans (hba.mono hbt.size)).size; exact this) _
          have howna := (hownt.below hba).alloc (.cells #[.int .i64 q1, .int .i64 q2] 30)
          go_upto_region 6 with (fail)
          generalize wa.alloc (.cells #[.int .i64 q1, .int .i64 q2] 30) = W1 at *
          generalize wa.heap.size = g1 at *
          generalize wr.heap.size = tb at *
          clear hbt hba HBV c0 c1 c2 hTt hownt
          have hzW := hbza.size
          have hTa_l := hTa.lt; have hTa_0 := hTa.cell 0; have hTa_1 := hTa.cell 1; have hTa_2 := hTa.cell 2; simp at hTa_0 hTa_1 hTa_2
          have hG_l := hG.lt; have hG_0 := hG.cell 0; have hG_1 := hG.cell 1; simp at hG_0 hG_1
          have hown3 := howna.alloc (.cells #[.string x1, .string x2, .int .i64 x3] 54)
          have hbo := Box.new W1 54 #[.string x1, .string x2, .int .i64 x3]
          go_wp2_with (at_builtin; refine wpList_append_lie (α := Mark) rfl _ _ 26 rfl 54 40 (.agg #[.string ⟨#[]⟩, .string ⟨#[]⟩, .int .i64 0]) Tryz.underlying26 Tryz.infoMark rfl u5 ls rfl hown3 (x1, x2, x3) W1.heap.size rfl hbo (by omega) (by omega) (by simp; omega) ?_; intro gg cap1 W4 hown4 hgrow hat)
          have hbr4 : Below w1.heap.size w1 W4 := (hbza.alloc hzW (.cells #[.string x1, .string x2, .int .i64 x3] 54)).grown hgrow (by simp; omega) (fun j hj => (hown3.lt j hj).1)
          clear hTa_l hTa_0 hTa_1 hTa_2
          clear hG_l hG_0 hG_1
          go_wp2_with fail
          rw [← HA.out]
          go_roundg (l.length - (k + 1))
          case measure => have := hgk.out; omega
          case rel => exact ⟨k + 1, by go_num, by omega, rfl, by rw [Hsn.out]; exact hown4, hbr4⟩
        · have hpb : pb = false := by rw [HP2.out, decide_eq_false hfar]
          subst hpb
          rw [if_neg (by simp)] at Hsn
          clear hbig HP2
          go_wp2_with fail
          refine (HBV.out _ hbt).mono ?_
          rintro e wa ⟨rfl, hba⟩
          have hTa := (hTt.below hba).alloc (.cells #[.int .i64 q1, .int .i64 q2] 30)
          have hG := Box.new wa 30 #[.int .i64 q1, .int .i64 q2]
          have hbza : Below w1.heap.size w1 (wa.alloc (.cells #[.int .i64 q1, .int .i64 q2] 30)) := (hbt.trans (hba.mono hbt.size)).alloc (by have := (hbt.trans (hba.mono hbt.size)).size; exact this) _
          have howna := (hownt.below hba).alloc (.cells #[.int .i64 q1, .int .i64 q2] 30)
          go_upto_region 6 with (fail)
          generalize wa.alloc (.cells #[.int .i64 q1, .int .i64 q2] 30) = W1 at *
          generalize wa.heap.size = g1 at *
          generalize wr.heap.size = tb at *
          clear hbt hba HBV c0 c1 c2 hTt hownt
          have hzW := hbza.size
          have hTa_l := hTa.lt; have hTa_0 := hTa.cell 0; have hTa_1 := hTa.cell 1; have hTa_2 := hTa.cell 2; simp at hTa_0 hTa_1 hTa_2
          have hG_l := hG.lt; have hG_0 := hG.cell 0; have hG_1 := hG.cell 1; simp at hG_0 hG_1
          go_wp2_with fail
          rw [← HA.out]
          go_roundg (l.length - (k + 1))
          case measure => have := hgk.out; omega
          case rel => exact ⟨k + 1, by go_num, by omega, rfl, by rw [Hsn.out]; exact howna, hbza⟩
      · have hpb : pb = false := by rw [HP.out, decide_eq_false hbig, Bool.false_and]
        subst hpb
        rw [if_neg (by simp)] at Hsn
        rw [if_neg hbig] at HBV
        clear hbig HP HBD HOR
        go_wp2_with fail
        refine (HBV.out _ hbt).mono ?_
        rintro e wa ⟨rfl, hba⟩
        have hTa := (hTt.below hba).alloc (.cells #[.int .i64 0, .int .i64 0] 30)
        have hG := Box.new wa 30 #[.int .i64 0, .int .i64 0]
        have hbza : Below w1.heap.size w1 (wa.alloc (.cells #[.int .i64 0, .int .i64 0] 30)) := (hbt.trans (hba.mono hbt.size)).alloc (by have := (hbt.trans (hba.mono hbt.size)).size; exact this) _
        have howna := (hownt.below hba).alloc (.cells #[.int .i64 0, .int .i64 0] 30)
        go_upto_region 6 with (fail)
        generalize wa.alloc (.cells #[.int .i64 0, .int .i64 0] 30) = W1 at *
        generalize wa.heap.size = g1 at *
        generalize wr.heap.size = tb at *
        clear hbt hba HBV c0 c1 c2 hTt hownt
        have hzW := hbza.size
        have hTa_l := hTa.lt; have hTa_0 := hTa.cell 0; have hTa_1 := hTa.cell 1; have hTa_2 := hTa.cell 2; simp at hTa_0 hTa_1 hTa_2
        have hG_l := hG.lt; have hG_0 := hG.cell 0; have hG_1 := hG.cell 1; simp at hG_0 hG_1
        go_wp2_with fail
        rw [← HA.out]
        go_roundg (l.length - (k + 1))
        case measure => have := hgk.out; omega
        case rel => exact ⟨k + 1, by go_num, by omega, rfl, by rw [Hsn.out]; exact howna, hbza⟩
    · obtain rfl : k = l.length := by omega
      rw [List.take_length, HO.out] at hown
      clear hlt
      go_wp2_with fail
      go_ret
      exact ⟨_, rfl, hown, hbr⟩
end Go.Proofs.YtaoomkkhpianlaaGreatDoor
