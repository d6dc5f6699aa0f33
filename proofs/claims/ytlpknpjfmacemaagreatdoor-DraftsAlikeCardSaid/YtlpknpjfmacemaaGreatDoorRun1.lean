/- Runs of equal words: the reference. -/
import Derived.Test.YtlpknpjfmacemaaGreatDoorRunP
import Derived.Test.YtlpknpjfmacemaaGreatDoorDraft1
namespace Go.Proofs.YtlpknpjfmacemaaGreatDoor
open Go.RowKit
set_option linter.unusedVariables false
set_option linter.unusedSimpArgs false

theorem Tryz.infoRun3 : (Tryz.prog.info? 69).map (fun i => (i.zero, i.size, i.bytes)) = some (some (.agg #[.int .i64 0, .int .i64 0, .int .i64 0]), 3, 24) := by kernel_rfl
theorem midB_first {x y : List ByteArray} {i j : Nat} (h : i = 0 ∨ j = 0) : midB x y i j = false := decide_eq_false (by omega)
theorem midB_at {x y : List ByteArray} {i j : Nat} (hi : i < x.length) (hj : j < y.length) : midB x y (i + 1) (j + 1) = decide (x[i] = y[j]) := by
  unfold midB
  rw [Nat.add_sub_cancel, Nat.add_sub_cancel, List.getElem?_eq_getElem hi, List.getElem?_eq_getElem hj, decide_eq_decide]
  constructor
  · rintro ⟨_, _, h⟩; exact Option.some.inj h
  · intro h; exact ⟨by omega, by omega, by rw [h]⟩
set_option maxRecDepth 100000 in
set_option maxHeartbeats 16000000 in
theorem runsOf_any (a b : ByteArray) (least : Int) (w : World) (ha : a.size ≤ 100000) (hb : b.size ≤ 100000) (hxl : (wordsS a).length ≤ 600) (hyl : (wordsS b).length ≤ 600) : Calls Tryz.prog 29 #[.string a, .string b, .int .i64 least] w (GivesOwn 69 (runsL (wordsS a) (wordsS b) least) w) := by
  have HWa := Lib.hid (wordsOfR_any a w (by omega))
  have HWb := Lib.hid (fun W => wordsOfR_any b W (by omega))
  generalize wordsS a = x at *
  generalize wordsS b = y at *
  go_enter Tryz.func29, Tryz.ntmps29
  go_wp2_with fail
  refine HWa.out.mono ?_
  rintro e w1 ⟨v1, rfl, hown1, hb1⟩
  obtain ⟨xa, xc, rfl, hx1, -, -⟩ := hown1.sa
  go_wp2_with fail
  refine (HWb.out _).mono ?_
  rintro e W2 ⟨v2, rfl, hown2, hb2⟩
  obtain ⟨ya, yc, rfl, hy, -, -⟩ := hown2.sa
  have hx := hx1.below hb2
  have hb02 := below_next hb1 hb2
  clear HWa HWb hown1 hown2 hx1 hb1 hb2
  go_wp2_with fail
  go_loopg [9, 19] x.length (fun gk v i wr => ∃ k : Nat, i = .int .i64 k ∧ k ≤ x.length ∧ Hid (gk = x.length - k) ∧ Own W2.heap.size 69 wr v (runsTo x y least k) ∧ Below W2.heap.size W2 wr)
  case atStart => exact ⟨0, rfl, by omega, rfl, Own.nil _ _ _, Below.refl _ _⟩
  obtain ⟨k, rfl, hk, hgk, hown, hbr⟩ := hrel
  have hal := runsTo_len x y least k
  have hal2 : k * y.length ≤ 600 * 600 := Nat.mul_le_mul (by omega) hyl
  by_cases hlt : k < x.length
  · have hk1 : (0 : Int) ≤ (k : Int) := by omega
    have hk2 : (k : Int) < (x.length : Int) := by omega
    have Hrow : Hid (runsTo x y least (k + 1) = runsTo x y least k ++ runRow x y least k y.length) := rfl
    have Hnil : Hid (runsTo x y least k ++ runRow x y least k 0 = runsTo x y least k) := List.append_nil _
    rw [← Hnil.out] at hown
    obtain ⟨R1, hR1⟩ : ∃ r, runsTo x y least (k + 1) = r := ⟨_, rfl⟩
    rw [hR1] at Hrow
    have HR1 := Lib.hid hR1
    clear hR1
    generalize runsTo x y least k = R0 at *
    go_wp2_with fail
    rename World => wo
    go_loopg [9, 24] y.length (fun gj v j wx => ∃ m : Nat, j = .int .i64 m ∧ m ≤ y.length ∧ Hid (gj = y.length - m) ∧ Own W2.heap.size 69 wx v (R0 ++ runRow x y least k m) ∧ Below W2.heap.size W2 wx)
    case atStart => exact ⟨0, rfl, by omega, rfl, hown, hbr⟩
    clear hown hbr
    obtain ⟨m, rfl, hm, hgm, hown, hbr⟩ := hrel
    have hzr := hbr.size
    have hrl := runRow_len x y least k m
    by_cases hml : m < y.length
    · have hm1 : (0 : Int) ≤ (m : Int) := by omega
      have hm2 : (m : Int) < (y.length : Int) := by omega
      have Hst : Hid (R0 ++ runRow x y least k (m + 1) = (R0 ++ runRow x y least k m) ++ runAt x y least k m) := by show _ = _; rw [List.append_assoc]; rfl
      obtain ⟨A1, hA1⟩ : ∃ r, R0 ++ runRow x y least k (m + 1) = r := ⟨_, rfl⟩
      rw [hA1] at Hst
      have HA1 := Lib.hid hA1
      clear hA1
      have hRAl : (R0 ++ runRow x y least k m).length ≤ 400000 := by rw [List.length_append]; omega
      generalize R0 ++ runRow x y least k m = RA at *
      go_upto_region 9 with (fail)
      go_cut [45] from 27 to 45 (fun v wx => v = .bool (midB x y k m) ∧ ∃ W' : World, W' = wx ∧ Own W2.heap.size 69 W' u9 RA ∧ Below W2.heap.size W2 W')
      case first =>
        by_cases hk0 : k = 0
        · subst hk0
          have hmid := midB_first (x := x) (y := y) (i := 0) (j := m) (.inl rfl)
          go_quiet (fail)
          go_wp2_with fail
          go_meet
          exact ⟨by rw [hmid], _, rfl, hown.below (below_drewN (Below.refl _ _) _), below_drewN hbr _⟩
        · have hk3 : (0 : Int) < (k : Int) := by omega
          have hkd : decide ((0 : Int) < (k : Int)) = true := decide_eq_true hk3
          have hkd2 : decide (0 < k) = true := decide_eq_true (by omega)
          have hkd3 : 0 < k := by omega
          by_cases hm0 : m = 0
          · subst hm0
            have hmid := midB_first (x := x) (y := y) (i := k) (j := 0) (.inr rfl)
            go_quiet (fail)
            go_wp2_with fail
            go_meet
            exact ⟨by rw [hmid], _, rfl, hown.below (below_drewN (Below.refl _ _) _), below_drewN hbr _⟩
          · obtain ⟨p, hkp⟩ : ∃ p, k = p + 1 := ⟨k - 1, by omega⟩
            obtain ⟨r, hmr⟩ : ∃ r, m = r + 1 := ⟨m - 1, by omega⟩
            have hp : p < x.length := by omega
            have hr : r < y.length := by omega
            have hm3 : (0 : Int) < (m : Int) := by omega
            have hmd : decide ((0 : Int) < (m : Int)) = true := decide_eq_true hm3
            have hmd2 : decide (0 < m) = true := decide_eq_true (by omega)
            have hmd3 : 0 < m := by omega
            obtain ⟨xb, xo, hxe, cx⟩ := (hx.below hbr).str hp
            obtain ⟨yb, yo, hye, cy⟩ := (hy.below hbr).str hr
            have Hmid : Hid (midB x y k m = decide (x[p] = y[r])) := by show _ = _; rw [hkp, hmr]; exact midB_at hp hr
            have hbq := toList_beq x[p] y[r]
            have Hxe := Lib.hid hxe
            have Hye := Lib.hid hye
            rw [hxe, hye]
            clear hxe hye
            generalize x[p] = xw at *
            generalize y[r] = yw at *
            have hwp : IntKind.i64.wrap ((k : Int) - 1) = (p : Int) := by rw [IntWalk.i64_in _ (by omega)]; omega
            have hwr : IntKind.i64.wrap ((m : Int) - 1) = (r : Int) := by rw [IntWalk.i64_in _ (by omega)]; omega
            have hwp' : IntKind.i64.wrap (p : Int) = (p : Int) := IntWalk.i64_in _ (by omega)
            have hwr' : IntKind.i64.wrap (r : Int) = (r : Int) := IntWalk.i64_in _ (by omega)
            have hp1 : (0 : Int) ≤ (p : Int) := by omega
            have hp2 : (p : Int) < (x.length : Int) := by omega
            have hr1 : (0 : Int) ≤ (r : Int) := by omega
            have hr2 : (r : Int) < (y.length : Int) := by omega
            generalize decide (xw = yw) = eqb at *
            clear hkp hmr hp hr hk0 hm0
            cases eqb
            all_goals
              go_quiet (fail)
              rw [← Hxe.out, ← Hye.out]
              go_wp2_with fail
              go_meet
              exact ⟨by rw [Hmid.out], _, rfl, hown.below (below_drewN (Below.refl _ _) _), below_drewN hbr _⟩
      case rest =>
        clear hown hbr
        obtain ⟨rfl, W', rfl, hown, hbr⟩ := hcut
        have Hat : Hid (runAt x y least k m = if midB x y k m = false ∧ least ≤ (cpl x y k m : Int) then [((k : Int), (m : Int), (cpl x y k m : Int))] else []) := rfl
        generalize runAt x y least k m = at1 at *
        cases hmid : midB x y k m
        · rw [hmid] at Hat
          have hcl := cpl_le x y k m
          go_wp2_with fail
          go_loopg [12] (x.length - k) (fun gn n wx => ∃ q : Nat, n = .int .i64 q ∧ k + q ≤ x.length ∧ m + q ≤ y.length ∧ Hid (gn = x.length - k - q) ∧ Hid (cpl x y k m = q + cpl x y (k + q) (m + q)) ∧ Own W2.heap.size 69 wx u9 RA ∧ Below W2.heap.size W2 wx)
          case atStart => exact ⟨0, rfl, by omega, by omega, rfl, by show _ = _; rw [Nat.zero_add]; rfl, hown, hbr⟩
          clear hown hbr
          obtain ⟨q, rfl, hq1, hq2, hgq, hcq, hown, hbr⟩ := hrel
          have hzq := hbr.size
          have hwk : IntKind.i64.wrap ((k : Int) + (q : Int)) = ((k + q : Nat) : Int) := by rw [IntWalk.i64_in _ (by omega)]; omega
          have hwm : IntKind.i64.wrap ((m : Int) + (q : Int)) = ((m + q : Nat) : Int) := by rw [IntWalk.i64_in _ (by omega)]; omega
          by_cases hkq : k + q < x.length
          · have hn1 : decide (k + q < x.length) = true := decide_eq_true hkq
            have hd1 : decide (((k + q : Nat) : Int) < (x.length : Int)) = true := decide_eq_true (by omega)
            by_cases hmq : m + q < y.length
            · have hn2 : decide (m + q < y.length) = true := decide_eq_true hmq
              have hd2 : decide (((m + q : Nat) : Int) < (y.length : Int)) = true := decide_eq_true (by omega)
              obtain ⟨xb, xo, hxe, cx⟩ := (hx.below hbr).str hkq
              obtain ⟨yb, yo, hye, cy⟩ := (hy.below hbr).str hmq
              have hbq := toList_beq x[k + q] y[m + q]
              have Hce := Lib.hid (fun h => cpl_eq hkq hmq h)
              have Hcn := Lib.hid (fun h => cpl_ne hkq hmq h)
              have Hxe := Lib.hid hxe
              have Hye := Lib.hid hye
              rw [hxe, hye]
              clear hxe hye
              generalize x[k + q] = xw at *
              generalize y[m + q] = yw at *
              have hq3 : k + (q + 1) ≤ x.length := by omega
              have hq4 : m + (q + 1) ≤ y.length := by omega
              obtain ⟨kq, hkq'⟩ : ∃ kq, k + q = kq := ⟨_, rfl⟩
              obtain ⟨mq, hmq'⟩ : ∃ mq, m + q = mq := ⟨_, rfl⟩
              rw [hkq'] at hwk hd1 hn1 cx hkq
              rw [hmq'] at hwm hd2 hn2 cy hmq
              have hp1 : (0 : Int) ≤ (kq : Int) := by omega
              have hp2 : (kq : Int) < (x.length : Int) := by omega
              have hr1 : (0 : Int) ≤ (mq : Int) := by omega
              have hr2 : (mq : Int) < (y.length : Int) := by omega
              by_cases heq : xw = yw
              · rw [decide_eq_true heq] at hbq
                have Hc2 := Lib.hid (Hce.out heq)
                clear heq hkq' hmq'
                go_upto_region 11 with (fail)
                go_quiet (fail)
                rw [← Hxe.out, ← Hye.out]
                go_wp2_with fail
                go_roundg (x.length - k - (q + 1))
                case measure => have := hgq.out; omega
                case rel => exact ⟨q + 1, by go_num, hq3, hq4, rfl, by show _ = _; rw [hcq.out, Hc2.out]; simp only [Nat.add_assoc]; omega, hown.below (below_drewN (Below.refl _ _) _), below_drewN hbr _⟩
              · rw [decide_eq_false heq] at hbq
                have Hfin : Hid (cpl x y k m = q) := by show _ = _; rw [hcq.out, Hcn.out heq]; rfl
                clear heq hkq' hmq'
                go_upto_region 11 with (fail)
                go_quiet (fail)
                rw [← Hxe.out, ← Hye.out]
                have hownA := fun n => hown.below (below_drewN (Below.refl wr.heap.size wr) n)
                have hbrA := fun n => below_drewN hbr n
                have HlO := Lib.hid hown.lt
                clear hown hbr
                by_cases hle : least ≤ (q : Int)
                · have Hst2 : Hid (A1 = RA ++ [((k : Int), (m : Int), (q : Int))]) := by show _ = _; rw [Hst.out, Hat.out, if_pos (And.intro (by first | rfl | trivial) (by rw [Hfin.out]; exact hle)), Hfin.out]
                  have hled : decide (least ≤ (q : Int)) = true := decide_eq_true hle
                  go_wp2_with (at_builtin; refine wpList_append_lie (α := Run3) rfl _ _ 58 rfl 69 24 (.agg #[.int .i64 0, .int .i64 0, .int .i64 0]) Tryz.underlying58 Tryz.infoRun3 rfl _ RA rfl ((hownA _).alloc _) ((k : Int), (m : Int), (q : Int)) _ rfl (Box.new _ _ _) (by omega) (by omega) (by simp; omega) ?_; intro g9 cap9 w9 hown9 hg9 hat9)
                  have hb9 := ((hbrA _).alloc (by simp; omega) (.cells #[.int .i64 k, .int .i64 m, .int .i64 q] 69)).grown hg9 (by simp; omega) (fun j hj => (HlO.out j hj).1)
                  rw [← Hst2.out] at hown9
                  (try go_wp2_with fail)
                  go_roundg (y.length - (m + 1))
                  case measure => have := hgm.out; omega
                  case rel => exact ⟨m + 1, by go_num, by omega, rfl, by rw [HA1.out]; exact hown9, hb9⟩
                · have Hst2 : Hid (A1 = RA) := by show _ = _; rw [Hst.out, Hat.out, if_neg (fun e => hle (by have := e.2; rw [Hfin.out] at this; exact this)), List.append_nil]
                  have hled : decide (least ≤ (q : Int)) = false := decide_eq_false hle
                  go_wp2_with fail
                  go_roundg (y.length - (m + 1))
                  case measure => have := hgm.out; omega
                  case rel => exact ⟨m + 1, by go_num, by omega, rfl, by rw [HA1.out, Hst2.out]; exact hownA _, hbrA _⟩
            · have hn2 : decide (m + q < y.length) = false := decide_eq_false hmq
              have hd2 : decide (((m + q : Nat) : Int) < (y.length : Int)) = false := decide_eq_false (by omega)
              have Hfin : Hid (cpl x y k m = q) := by show _ = _; rw [hcq.out, cpl_outR (by omega)]; rfl
              obtain ⟨kq, hkq'⟩ : ∃ kq, k + q = kq := ⟨_, rfl⟩
              obtain ⟨mq, hmq'⟩ : ∃ mq, m + q = mq := ⟨_, rfl⟩
              rw [hkq'] at hwk hd1 hn1 hkq
              rw [hmq'] at hwm hd2 hn2 hmq
              clear hkq' hmq'
              go_upto_region 11 with (fail)
              go_quiet (fail)
              have hownA := fun n => hown.below (below_drewN (Below.refl wr.heap.size wr) n)
              have hbrA := fun n => below_drewN hbr n
              have HlO := Lib.hid hown.lt
              clear hown hbr
              by_cases hle : least ≤ (q : Int)
              · have Hst2 : Hid (A1 = RA ++ [((k : Int), (m : Int), (q : Int))]) := by show _ = _; rw [Hst.out, Hat.out, if_pos (And.intro (by first | rfl | trivial) (by rw [Hfin.out]; exact hle)), Hfin.out]
                have hled : decide (least ≤ (q : Int)) = true := decide_eq_true hle
                go_wp2_with (at_builtin; refine wpList_append_lie (α := Run3) rfl _ _ 58 rfl 69 24 (.agg #[.int .i64 0, .int .i64 0, .int .i64 0]) Tryz.underlying58 Tryz.infoRun3 rfl _ RA rfl ((hownA _).alloc _) ((k : Int), (m : Int), (q : Int)) _ rfl (Box.new _ _ _) (by omega) (by omega) (by simp; omega) ?_; intro g9 cap9 w9 hown9 hg9 hat9)
                have hb9 := ((hbrA _).alloc (by simp; omega) (.cells #[.int .i64 k, .int .i64 m, .int .i64 q] 69)).grown hg9 (by simp; omega) (fun j hj => (HlO.out j hj).1)
                rw [← Hst2.out] at hown9
                (try go_wp2_with fail)
                go_roundg (y.length - (m + 1))
                case measure => have := hgm.out; omega
                case rel => exact ⟨m + 1, by go_num, by omega, rfl, by rw [HA1.out]; exact hown9, hb9⟩
              · have Hst2 : Hid (A1 = RA) := by show _ = _; rw [Hst.out, Hat.out, if_neg (fun e => hle (by have := e.2; rw [Hfin.out] at this; exact this)), List.append_nil]
                have hled : decide (least ≤ (q : Int)) = false := decide_eq_false hle
                go_wp2_with fail
                go_roundg (y.length - (m + 1))
                case measure => have := hgm.out; omega
                case rel => exact ⟨m + 1, by go_num, by omega, rfl, by rw [HA1.out, Hst2.out]; exact hownA _, hbrA _⟩
          · have hn1 : decide (k + q < x.length) = false := decide_eq_false hkq
            have hd1 : decide (((k + q : Nat) : Int) < (x.length : Int)) = false := decide_eq_false (by omega)
            have Hfin : Hid (cpl x y k m = q) := by show _ = _; rw [hcq.out, cpl_outL (by omega)]; rfl
            obtain ⟨kq, hkq'⟩ : ∃ kq, k + q = kq := ⟨_, rfl⟩
            rw [hkq'] at hwk hd1 hn1 hkq
            clear hkq'
            go_upto_region 11 with (fail)
            go_quiet (fail)
            have hownA := fun n => hown.below (below_drewN (Below.refl wr.heap.size wr) n)
            have hbrA := fun n => below_drewN hbr n
            have HlO := Lib.hid hown.lt
            clear hown hbr
            by_cases hle : least ≤ (q : Int)
            · have Hst2 : Hid (A1 = RA ++ [((k : Int), (m : Int), (q : Int))]) := by show _ = _; rw [Hst.out, Hat.out, if_pos (And.intro (by first | rfl | trivial) (by rw [Hfin.out]; exact hle)), Hfin.out]
              have hled : decide (least ≤ (q : Int)) = true := decide_eq_true hle
              go_wp2_with (at_builtin; refine wpList_append_lie (α := Run3) rfl _ _ 58 rfl 69 24 (.agg #[.int .i64 0, .int .i64 0, .int .i64 0]) Tryz.underlying58 Tryz.infoRun3 rfl _ RA rfl ((hownA _).alloc _) ((k : Int), (m : Int), (q : Int)) _ rfl (Box.new _ _ _) (by omega) (by omega) (by simp; omega) ?_; intro g9 cap9 w9 hown9 hg9 hat9)
              have hb9 := ((hbrA _).alloc (by simp; omega) (.cells #[.int .i64 k, .int .i64 m, .int .i64 q] 69)).grown hg9 (by simp; omega) (fun j hj => (HlO.out j hj).1)
              rw [← Hst2.out] at hown9
              (try go_wp2_with fail)
              go_roundg (y.length - (m + 1))
              case measure => have := hgm.out; omega
              case rel => exact ⟨m + 1, by go_num, by omega, rfl, by rw [HA1.out]; exact hown9, hb9⟩
            · have Hst2 : Hid (A1 = RA) := by show _ = _; rw [Hst.out, Hat.out, if_neg (fun e => hle (by have := e.2; rw [Hfin.out] at this; exact this)), List.append_nil]
              have hled : decide (least ≤ (q : Int)) = false := decide_eq_false hle
              go_wp2_with fail
              go_roundg (y.length - (m + 1))
              case measure => have := hgm.out; omega
              case rel => exact ⟨m + 1, by go_num, by omega, rfl, by rw [HA1.out, Hst2.out]; exact hownA _, hbrA _⟩
        · rw [hmid] at Hat
          have Hat2 : Hid (A1 = RA) := by show _ = _; rw [Hst.out, Hat.out, if_neg (fun e => by cases e.1), List.append_nil]
          go_wp2_with fail
          go_roundg (y.length - (m + 1))
          case measure => have := hgm.out; omega
          case rel => exact ⟨m + 1, by go_num, by omega, rfl, by rw [HA1.out, Hat2.out]; exact hown, hbr⟩
    · obtain rfl : m = y.length := by omega
      rw [← Hrow.out] at hown
      go_wp2_with fail
      go_roundg (x.length - (k + 1))
      case measure => have := hgk.out; omega
      case rel => exact ⟨k + 1, by go_num, by omega, rfl, by rw [HR1.out]; exact hown, hbr⟩
  · obtain rfl : k = x.length := by omega
    go_wp2_with fail
    go_ret
    exact ⟨_, rfl, hown.mono (by have := hb02.size; omega), below_next hb02 hbr⟩
end Go.Proofs.YtlpknpjfmacemaaGreatDoor
