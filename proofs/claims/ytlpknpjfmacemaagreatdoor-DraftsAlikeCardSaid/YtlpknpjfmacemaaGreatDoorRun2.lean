/- Runs of equal words: the program. -/
import Derived.Test.YtlpknpjfmacemaaGreatDoorRunT
import Derived.Test.YtlpknpjfmacemaaGreatDoorRun1
import Derived.Test.YtlpknpjfmacemaaGreatDoorRegF
namespace Go.Proofs.YtlpknpjfmacemaaGreatDoor
open Go.RowKit
set_option linter.unusedVariables false
set_option linter.unusedSimpArgs false

set_option maxRecDepth 100000 in
set_option maxHeartbeats 16000000 in
theorem runs_any (xa ya : Option Addr) (xc yc : Nat) (x y : List ByteArray) (least : Int) (w : World) (hx0 : SA w xa x) (hy0 : SA w ya y) (hxl : x.length ≤ 600) (hyl : y.length ≤ 600) :
    Calls Tryz.prog 77 #[.slice xa x.length xc, .slice ya y.length yc, .int .i64 least] w (GivesOwn 69 (runsL x y least) w) := by
  obtain ⟨N, hN⟩ : ∃ N, x.length + 1 = N := ⟨_, rfl⟩
  obtain ⟨M, hM⟩ : ∃ M, y.length + 1 = M := ⟨_, rfl⟩
  have hwN : IntKind.i64.wrap ((x.length : Int) + 1) = (N : Int) := by rw [IntWalk.i64_in _ (by omega)]; omega
  have hwM : IntKind.i64.wrap ((y.length : Int) + 1) = (M : Int) := by rw [IntWalk.i64_in _ (by omega)]; omega
  have hmkO := run_make_len (P := Tryz.prog) 179 22 (.slice none 0 0) 24 (by kernel_rfl) Tryz.infoDR rfl N (by omega) (by omega)
  have hmkR := run_make_len (P := Tryz.prog) 22 3 (.int .i64 0) 8 (by kernel_rfl) Tryz.infoDI rfl M (by omega) (by omega)
  go_enter Tryz.func77, Tryz.ntmps77
  go_wp2_with fail
  go_loopg [20] N (fun gk i wr => ∃ k : Nat, i = .int .i64 k ∧ k ≤ N ∧ Hid (gk = N - k) ∧ Outer wr w.heap.size N M k ∧ Rows wr w.heap.size M k (fun _ _ => 0) ∧ wr.heap.size = w.heap.size + 1 + k ∧ Below w.heap.size w wr)
  case atStart => exact ⟨0, rfl, by omega, rfl, Outer.new _ _ _, fun j hj => by omega, by simp, (Below.refl _ _).alloc (Nat.le_refl _) _⟩
  obtain ⟨k, rfl, hk, hgk, hO, hR, hsz, hbr⟩ := hrel
  by_cases hlt : k < N
  · have hk1 : (0 : Int) ≤ (k : Int) := by omega
    have hk2 : (k : Int) < (N : Int) := by omega
    obtain ⟨u, hu1, hu2⟩ := (hO.alloc (.cells (Array.replicate M (.int .i64 0)) 3)).has hlt
    go_wp2_with fail
    go_roundg (N - (k + 1))
    case measure => have := hgk.out; omega
    case rel => exact ⟨k + 1, by go_num, by omega, rfl, (hO.alloc _).put hlt rfl, (hR.snoc hsz (fun _ _ => rfl)).putOuter _ _, by simp [World.setCell]; omega, (hbr.alloc (by omega) _).setCell (Nat.le_refl _) _⟩
  obtain rfl : N = k := by omega
  have hR1 : Rows wr w.heap.size M N (tabT x y x.length (y.length + 1)) := hR.congr fun j hj i hi => (tabT_start x y j i (by omega)).elim id (fun h => by omega)
  clear hR hmkO hmkR hlt
  go_wp2_with fail
  go_loopg [9] x.length (fun gk i wr => ∃ (k : Nat) (z : Int), i = .int .i64 z ∧ z = (k : Int) - 1 ∧ k ≤ x.length ∧ Hid (gk = k) ∧ Outer wr w.heap.size N M N ∧ Rows wr w.heap.size M N (tabT x y k (y.length + 1)) ∧ wr.heap.size = w.heap.size + 1 + N ∧ Below w.heap.size w wr)
  case atStart => exact ⟨x.length, _, by go_num, rfl, Nat.le_refl _, rfl, hO, hR1, hsz, hbr⟩
  clear hO hR1 hsz hbr
  obtain ⟨k, z, rfl, hz, hk, hgk, hO, hR, hsz, hbr⟩ := hrel
  by_cases hk0 : k = 0
  · have hzn : decide ((0 : Int) ≤ z) = false := decide_eq_false (by omega)
    subst hk0
    have hR2 : Rows wr w.heap.size M N (fun a b => (cpl x y a b : Int)) := hR.congr fun j hj i hi => tabT_end x y j i _
    have hsq : w.heap.size + 1 + N ≤ wr.heap.size := by omega
    have hb02 := hbr
    clear hR hgk hbr hk hz
    generalize wr = W2 at *
    go_wp2_with fail
    go_loopg [11, 72] x.length (fun gk v i wr => ∃ k : Nat, i = .int .i64 k ∧ k ≤ x.length ∧ Hid (gk = x.length - k) ∧ Own W2.heap.size 69 wr v (runsTo x y least k) ∧ Below W2.heap.size W2 wr)
    case atStart => exact ⟨0, rfl, by omega, rfl, Own.nil _ _ _, Below.refl _ _⟩
    obtain ⟨k, rfl, hk, hgk, hown, hbr⟩ := hrel
    have hal := runsTo_len x y least k
    have hal2 : k * y.length ≤ 600 * 600 := Nat.mul_le_mul (by omega) hyl
    by_cases hlt : k < x.length
    · have hk1 : (0 : Int) ≤ (k : Int) := by omega
      have hk2 : (k : Int) < (x.length : Int) := by omega
      have hk9 : (k : Int) < (N : Int) := by omega
      have Hrow : Hid (runsTo x y least (k + 1) = runsTo x y least k ++ runRow x y least k y.length) := rfl
      have Hnil : Hid (runsTo x y least k ++ runRow x y least k 0 = runsTo x y least k) := List.append_nil _
      rw [← Hnil.out] at hown
      obtain ⟨R1, hR1⟩ : ∃ r, runsTo x y least (k + 1) = r := ⟨_, rfl⟩
      rw [hR1] at Hrow
      have HR1 := Lib.hid hR1
      clear hR1
      generalize runsTo x y least k = R0 at *
      clear Hnil
      go_wp2_with fail
      go_loopg [11, 77] y.length (fun gm v i wx => ∃ m : Nat, i = .int .i64 m ∧ m ≤ y.length ∧ Hid (gm = y.length - m) ∧ Own W2.heap.size 69 wx v (R0 ++ runRow x y least k m) ∧ Below W2.heap.size W2 wx)
      case atStart => exact ⟨0, rfl, by omega, rfl, hown, hbr⟩
      clear hown hbr
      obtain ⟨m, rfl, hm, hgm, hown, hbr⟩ := hrel
      have hrl := runRow_len x y least k m
      by_cases hml : m < y.length
      · have hm1 : (0 : Int) ≤ (m : Int) := by omega
        have hm2 : (m : Int) < (y.length : Int) := by omega
        have hm9 : (m : Int) < (M : Int) := by omega
        have Hst : Hid (R0 ++ runRow x y least k (m + 1) = (R0 ++ runRow x y least k m) ++ runAt x y least k m) := by show _ = _; rw [List.append_assoc]; rfl
        obtain ⟨A1, hA1⟩ : ∃ r, R0 ++ runRow x y least k (m + 1) = r := ⟨_, rfl⟩
        rw [hA1] at Hst
        have HA1 := Lib.hid hA1
        clear hA1
        have hRAl : (R0 ++ runRow x y least k m).length ≤ 400000 := by rw [List.length_append]; omega
        generalize R0 ++ runRow x y least k m = RA at *
        obtain ⟨C, hC⟩ : ∃ C, cpl x y k m = C := ⟨_, rfl⟩
        have hcell : ∀ W, Below W2.heap.size W2 W → W.cell? ⟨w.heap.size + 1 + k, m, none⟩ = some (.int .i64 (C : Int)) := fun W hW => by rw [← hC]; exact (hR2.below hW).cell (j := k) (i := m) (by omega) (by omega)
        have hcel2 : ∀ W, Below W2.heap.size W2 W → W.cell? ⟨w.heap.size, k, none⟩ = some (.slice (some ⟨w.heap.size + 1 + k, 0, none⟩) M M) := fun W hW => (hO.below hW).cell (by omega)
        have Hcell := Lib.hid hcell
        have Hcel2 := Lib.hid hcel2
        have hc1 := hcel2 _ hbr
        have hc2 := hcell _ hbr
        clear hcell hcel2
        have Hat : Hid (runAt x y least k m = if midB x y k m = false ∧ least ≤ (C : Int) then [((k : Int), (m : Int), (C : Int))] else []) := by rw [← hC]; rfl
        generalize runAt x y least k m = at1 at *
        clear hC
        go_upto_region 22 with (fail)
        go_cut [109] from 80 to 109 (fun v wx => v = .bool (decide (least ≤ (C : Int)) && !midB x y k m) ∧ ∃ W' : World, W' = wx ∧ Own W2.heap.size 69 W' u11 RA ∧ Below W2.heap.size W2 W')
        case first =>
          by_cases hle : least ≤ (C : Int)
          · have hled : decide (least ≤ (C : Int)) = true := decide_eq_true hle
            by_cases hk0 : k = 0
            · subst hk0
              have hmid := midB_first (x := x) (y := y) (i := 0) (j := m) (.inl rfl)
              go_quiet (fail)
              go_wp2_with fail
              go_meet
              exact ⟨by rw [hmid, hled]; rfl, _, rfl, hown.below (below_drewN (Below.refl _ _) _), below_drewN hbr _⟩
            · have hkd : decide ((k : Int) = 0) = false := decide_eq_false (by omega)
              have hkd2 : ((k : Int) == 0) = false := by rw [beq_eq_false_iff_ne]; omega
              have hkd3 : ¬ k = 0 := hk0
              have hkd4 : decide (k = 0) = false := decide_eq_false hk0
              by_cases hm0 : m = 0
              · subst hm0
                have hmid := midB_first (x := x) (y := y) (i := k) (j := 0) (.inr rfl)
                go_quiet (fail)
                go_wp2_with fail
                go_meet
                exact ⟨by rw [hmid, hled]; rfl, _, rfl, hown.below (below_drewN (Below.refl _ _) _), below_drewN hbr _⟩
              · have hmd : decide ((m : Int) = 0) = false := decide_eq_false (by omega)
                have hmd2 : ((m : Int) == 0) = false := by rw [beq_eq_false_iff_ne]; omega
                have hmd4 : decide (m = 0) = false := decide_eq_false hm0
                obtain ⟨p, hkp⟩ : ∃ p, k = p + 1 := ⟨k - 1, by omega⟩
                obtain ⟨r, hmr⟩ : ∃ r, m = r + 1 := ⟨m - 1, by omega⟩
                have hp : p < x.length := by omega
                have hr : r < y.length := by omega
                obtain ⟨xb, xo, hxe, cx⟩ := ((hx0.below hb02).below (hbr)).str hp
                obtain ⟨yb, yo, hye, cy⟩ := ((hy0.below hb02).below (hbr)).str hr
                have Hmid : Hid (midB x y k m = decide (x[p] = y[r])) := by show _ = _; rw [hkp, hmr]; exact midB_at hp hr
                have hbq := toList_beq x[p] y[r]
                have hbn : (x[p].toList != y[r].toList) = !decide (x[p] = y[r]) := by rw [bne, toList_beq]
                have Hxe := Lib.hid hxe
                have Hye := Lib.hid hye
                rw [hxe, hye]
                clear hxe hye
                generalize x[p] = xw at *
                generalize y[r] = yw at *
                have hwp : IntKind.i64.wrap ((k : Int) - 1) = (p : Int) := by rw [IntWalk.i64_in _ (by omega)]; omega
                have hwr : IntKind.i64.wrap ((m : Int) - 1) = (r : Int) := by rw [IntWalk.i64_in _ (by omega)]; omega
                have hwp' : IntKind.i64.wrap (p : Int) = (p : Int) := IntWalk.i64_in _ (by omega)
                have hwr' : IntKind.i64.wrap (r : Int) = (r : Int) := IntWalk.i64_in _ (by omega)
                have hp1 : (0 : Int) ≤ (p : Int) := by omega
                have hp2 : (p : Int) < (x.length : Int) := by omega
                have hr1 : (0 : Int) ≤ (r : Int) := by omega
                have hr2 : (r : Int) < (y.length : Int) := by omega
                generalize decide (xw = yw) = eqb at *
                clear hkp hmr hp hr hk0 hm0
                cases eqb
                all_goals
                  go_quiet (fail)
                  rw [← Hxe.out, ← Hye.out]
                  go_wp2_with fail
                  go_meet
                  exact ⟨by rw [Hmid.out, hled]; rfl, _, rfl, hown.below (below_drewN (Below.refl _ _) _), below_drewN hbr _⟩
          · have hled : decide (least ≤ (C : Int)) = false := decide_eq_false hle
            go_quiet (fail)
            go_wp2_with fail
            go_meet
            exact ⟨by rw [hled]; rfl, _, rfl, hown.below (below_drewN (Below.refl _ _) _), below_drewN hbr _⟩
        case rest =>
          clear hown hbr hc1 hc2
          obtain ⟨rfl, W', rfl, hown, hbr⟩ := hcut
          have hc1 := Hcel2.out _ hbr
          have hc2 := Hcell.out _ hbr
          have HlO := Lib.hid hown.lt
          have hbrA := hbr
          by_cases hon : midB x y k m = false ∧ least ≤ (C : Int)
          · have Hst2 : Hid (A1 = RA ++ [((k : Int), (m : Int), (C : Int))]) := by show _ = _; rw [Hst.out, Hat.out, if_pos hon]
            have hled : decide (least ≤ (C : Int)) = true := decide_eq_true hon.2
            have hmid := hon.1
            rw [hmid, hled]
            go_wp2_with (at_builtin; refine wpList_append_lie (α := Run3) rfl _ _ 58 rfl 69 24 (.agg #[.int .i64 0, .int .i64 0, .int .i64 0]) Tryz.underlying58 Tryz.infoRun3 rfl _ RA rfl (hown.alloc _) ((k : Int), (m : Int), (C : Int)) _ rfl (Box.new _ _ _) (by omega) (by omega) (by simp; have := hbr.size; omega) ?_; intro g9 cap9 w9 hown9 hg9 hat9)
            have hb9 := ((hbrA).alloc (by have := hbrA.size; omega) (.cells #[.int .i64 k, .int .i64 m, .int .i64 C] 69)).grown hg9 (by simp; have := hbrA.size; omega) (fun j hj => (HlO.out j hj).1)
            rw [← Hst2.out] at hown9
            (try go_wp2_with fail)
            go_roundg (y.length - (m + 1))
            case measure => have := hgm.out; omega
            case rel => exact ⟨m + 1, by go_num, by omega, rfl, by rw [HA1.out]; exact hown9, hb9⟩
          · have Hst2 : Hid (A1 = RA) := by show _ = _; rw [Hst.out, Hat.out, if_neg hon, List.append_nil]
            have hoff : (decide (least ≤ (C : Int)) && !midB x y k m) = false := by
              cases h1 : midB x y k m
              · rw [decide_eq_false (fun h => hon ⟨h1, h⟩)]; rfl
              · rw [Bool.not_true, Bool.and_false]
            rw [hoff]
            go_wp2_with fail
            go_roundg (y.length - (m + 1))
            case measure => have := hgm.out; omega
            case rel => exact ⟨m + 1, by go_num, by omega, rfl, by rw [HA1.out, Hst2.out]; exact hown, hbr⟩
      · obtain rfl : m = y.length := by omega
        rw [← Hrow.out] at hown
        go_wp2_with fail
        go_roundg (x.length - (k + 1))
        case measure => have := hgk.out; omega
        case rel => exact ⟨k + 1, by go_num, by omega, rfl, by rw [HR1.out]; exact hown, hbr⟩
    · obtain rfl : k = x.length := by omega
      go_wp2_with fail
      go_ret
      exact ⟨_, rfl, hown.mono (by omega), hb02.trans (hbr.mono (by omega))⟩
  · obtain ⟨p, rfl⟩ : ∃ p, k = p + 1 := ⟨k - 1, by omega⟩
    obtain rfl : z = (p : Int) := by omega
    have hzn : decide ((0 : Int) ≤ (p : Int)) = true := decide_eq_true (by omega)
    have hR2 : Rows wr w.heap.size M N (tabT x y (p + 1) y.length) := hR.congr fun j hj i hi => tabT_row x y (by omega)
    clear hR hz
    go_wp2_with fail
    go_loopg [10] y.length (fun gm i wr => ∃ (m : Nat) (z : Int), i = .int .i64 z ∧ z = (m : Int) - 1 ∧ m ≤ y.length ∧ Hid (gm = m) ∧ Outer wr w.heap.size N M N ∧ Rows wr w.heap.size M N (tabT x y (p + 1) m) ∧ wr.heap.size = w.heap.size + 1 + N ∧ Below w.heap.size w wr)
    case atStart => exact ⟨y.length, _, by go_num, rfl, Nat.le_refl _, rfl, hO, hR2, hsz, hbr⟩
    clear hO hR2 hsz hbr
    obtain ⟨m, z, rfl, hz, hm, hgm, hO, hR, hsz, hbr⟩ := hrel
    by_cases hm0 : m = 0
    · have hzn2 : decide ((0 : Int) ≤ z) = false := decide_eq_false (by omega)
      subst hm0
      have hR3 : Rows wr w.heap.size M N (tabT x y p (y.length + 1)) := hR.congr fun j hj i hi => tabT_next x y (by omega)
      have hwp : IntKind.i64.wrap ((p : Int) - 1) = (p : Int) - 1 := IntWalk.i64_in _ (by omega)
      clear hR
      go_wp2_with fail
      go_roundg p
      case measure => have := hgk.out; omega
      case rel => exact ⟨p, _, by go_num, rfl, by omega, rfl, hO, hR3, hsz, hbr⟩
    · obtain ⟨r, rfl⟩ : ∃ r, m = r + 1 := ⟨m - 1, by omega⟩
      obtain rfl : z = (r : Int) := by omega
      have hzn2 : decide ((0 : Int) ≤ (r : Int)) = true := decide_eq_true (by omega)
      have hp : p < x.length := by omega
      have hr : r < y.length := by omega
      obtain ⟨xb, xo, hxe, cx⟩ := (hx0.below hbr).str hp
      obtain ⟨yb, yo, hye, cy⟩ := (hy0.below hbr).str hr
      have hbq := toList_beq x[p] y[r]
      have Heq := Lib.hid (fun h a b => tabT_eq x y hp hr h a b)
      have Hne := Lib.hid (fun h a b => tabT_ne x y hp hr h a b)
      have Hxe := Lib.hid hxe
      have Hye := Lib.hid hye
      rw [hxe, hye]
      clear hxe hye
      generalize x[p] = xw at *
      generalize y[r] = yw at *
      have hp1 : (0 : Int) ≤ (p : Int) := by omega
      have hp2 : (p : Int) < (x.length : Int) := by omega
      have hr1 : (0 : Int) ≤ (r : Int) := by omega
      have hr2 : (r : Int) < (y.length : Int) := by omega
      have hwr : IntKind.i64.wrap ((r : Int) - 1) = (r : Int) - 1 := IntWalk.i64_in _ (by omega)
      have hb1 := fun n => below_drewN (Below.refl wr.heap.size wr) n
      by_cases heq : xw = yw
      · rw [decide_eq_true heq] at hbq
        have Hc2 := Lib.hid (Heq.out heq)
        clear heq Heq Hne hz hm0
        go_wp2_with fail
        go_quiet (fail)
        rw [← Hxe.out, ← Hye.out]
        have hO1 := hO.below (hb1 nq)
        have hR1 := hR.below (hb1 nq)
        have hbq1 := hbr.trans ((hb1 nq).mono hbr.size)
        have hsz1 : (wr.drewN nq).heap.size = w.heap.size + 1 + N := hsz
        clear hO hR hbr hsz cx cy Hxe Hye hb1
        generalize wr.drewN nq = wz at *
        have hT : tabT x y (p + 1) (r + 1) (p + 1) (r + 1) = (cpl x y (p + 1) (r + 1) : Int) := by unfold tabT; rw [if_pos (.inl (Nat.le_refl _))]
        have hcl := cpl_le x y (p + 1) (r + 1)
        have hc3 := hR1.cell (j := p + 1) (i := r + 1) (by omega) (by omega)
        obtain ⟨C, hC⟩ : ∃ C, cpl x y (p + 1) (r + 1) = C := ⟨_, rfl⟩
        rw [hC] at hT hcl
        have Hc3 : Hid (∀ a b, (if a = p ∧ b = r then (C : Int) + 1 else tabT x y (p + 1) (r + 1) a b) = tabT x y (p + 1) r a b) := fun a b => by rw [← Hc2.out a b, hT]
        rw [hT] at hc3
        clear hT hC Hc2
        obtain ⟨p1, hp3⟩ : ∃ p1, p + 1 = p1 := ⟨_, rfl⟩
        obtain ⟨r1, hr3⟩ : ∃ r1, r + 1 = r1 := ⟨_, rfl⟩
        have hwp1 : IntKind.i64.wrap ((p : Int) + 1) = (p1 : Int) := by rw [IntWalk.i64_in _ (by omega)]; omega
        have hwr1 : IntKind.i64.wrap ((r : Int) + 1) = (r1 : Int) := by rw [IntWalk.i64_in _ (by omega)]; omega
        have hwC : IntKind.i64.wrap (1 + (C : Int)) = (C : Int) + 1 := by rw [IntWalk.i64_in _ (by omega)]; omega
        rw [hp3, hr3] at hc3
        have hc1 := hO1.cell (j := p) (by omega)
        have hc2 := hO1.cell (j := p1) (by omega)
        have hc4 := hR1.cell (j := p) (i := r) (by omega) (by omega)
        have hc5 := hR1.frozen (j := p) (by omega) r
        have hp4 : (0 : Int) ≤ (p1 : Int) := by omega
        have hp5 : (p1 : Int) < (N : Int) := by omega
        have hp6 : (p : Int) < (N : Int) := by omega
        have hr4 : (0 : Int) ≤ (r1 : Int) := by omega
        have hr5 : (r1 : Int) < (M : Int) := by omega
        have hr6 : (r : Int) < (M : Int) := by omega
        have hRp := Lib.hid (hR1.put (j := p) (i := r) (by omega) (by omega) ((C : Int) + 1))
        clear hp3 hr3
        generalize tabT x y (p + 1) (r + 1) p r = old at *
        go_wp2_with fail
        refine wp_regionF (S := (fun wx => wx.cell? ⟨w.heap.size, p, none⟩ = some (.slice (some ⟨w.heap.size + 1 + p, 0, none⟩) M M) ∧ wx.cell? ⟨w.heap.size, p1, none⟩ = some (.slice (some ⟨w.heap.size + 1 + p1, 0, none⟩) M M) ∧ wx.cell? ⟨w.heap.size + 1 + p1, r1, none⟩ = some (.int .i64 (C : Int)) ∧ wx.cell? ⟨w.heap.size + 1 + p, r, none⟩ = some (.int .i64 old) ∧ wx.frozen? ⟨w.heap.size + 1 + p, r, none⟩ = false ∧ Below wz.heap.size wz wx)) 16 (by kernel_rfl) ?hS (fun hHeld => ?_)
        case hS => exact ⟨hc1, hc2, hc3, hc4, hc5, (Below.refl _ _).drew⟩
        refine rtakeF (i := 0) (d := (some 54)) (v := ?_) (n := 40) rfl (by kernel_rfl) (by kernel_rfl) (by kernel_rfl) (by kernel_rfl) (by kernel_rfl) (by kernel_rfl) (fun _ _ _ h => h) (by kernel_rfl) (by assumption) ?_ ?_
        rotate_left 1
        · (intro wI hSI; (try dsimp only at hSI); go_simp; (try with_reducible rfl))
        simp only [Act.put, List.setIfInBounds_toArray, List.set_cons_zero, List.set_cons_succ]
        refine rtakeF (i := 1) (d := (some 55)) (v := ?_) (n := 40) rfl (by kernel_rfl) (by kernel_rfl) (by kernel_rfl) (by kernel_rfl) (by kernel_rfl) (by kernel_rfl) (fun _ _ _ h => h) (by kernel_rfl) (by assumption) ?_ ?_
        rotate_left 1
        · (intro wI hSI; (try dsimp only at hSI); go_simp; (try with_reducible rfl))
        simp only [Act.put, List.setIfInBounds_toArray, List.set_cons_zero, List.set_cons_succ]
        refine rtakeF (i := 2) (d := (some 56)) (v := ?_) (n := 40) rfl (by kernel_rfl) (by kernel_rfl) (by kernel_rfl) (by kernel_rfl) (by kernel_rfl) (by kernel_rfl) (fun _ _ _ h => h) (by kernel_rfl) (by assumption) ?_ ?_
        rotate_left 1
        · (intro wI hSI; (try dsimp only at hSI); go_simp; (try with_reducible rfl))
        simp only [Act.put, List.setIfInBounds_toArray, List.set_cons_zero, List.set_cons_succ]
        refine rtakeF (i := 3) (d := (some 57)) (v := ?_) (n := 40) rfl (by kernel_rfl) (by kernel_rfl) (by kernel_rfl) (by kernel_rfl) (by kernel_rfl) (by kernel_rfl) (fun _ _ _ h => h) (by kernel_rfl) (by assumption) ?_ ?_
        rotate_left 1
        · (intro wI hSI; (try dsimp only at hSI); go_simp; (try with_reducible rfl))
        simp only [Act.put, List.setIfInBounds_toArray, List.set_cons_zero, List.set_cons_succ]
        refine rtakeF (i := 4) (d := (some 58)) (v := ?_) (n := 40) rfl (by kernel_rfl) (by kernel_rfl) (by kernel_rfl) (by kernel_rfl) (by kernel_rfl) (by kernel_rfl) (fun _ _ _ h => h) (by kernel_rfl) (by assumption) ?_ ?_
        rotate_left 1
        · (intro wI hSI; (try dsimp only at hSI); go_simp; (try with_reducible rfl))
        simp only [Act.put, List.setIfInBounds_toArray, List.set_cons_zero, List.set_cons_succ]
        refine rtakeF (i := 5) (d := (some 59)) (v := ?_) (n := 40) rfl (by kernel_rfl) (by kernel_rfl) (by kernel_rfl) (by kernel_rfl) (by kernel_rfl) (by kernel_rfl) (fun _ _ _ h => h) (by kernel_rfl) (by assumption) ?_ ?_
        rotate_left 1
        · (intro wI hSI; (try dsimp only at hSI); go_simp; (try with_reducible rfl))
        simp only [Act.put, List.setIfInBounds_toArray, List.set_cons_zero, List.set_cons_succ]
        refine rtakeF (i := 6) (d := (some 60)) (v := ?_) (n := 40) rfl (by kernel_rfl) (by kernel_rfl) (by kernel_rfl) (by kernel_rfl) (by kernel_rfl) (by kernel_rfl) (fun _ _ _ h => h) (by kernel_rfl) (by assumption) ?_ ?_
        rotate_left 1
        · (intro wI hSI; (try dsimp only at hSI); go_simp; (try with_reducible rfl))
        simp only [Act.put, List.setIfInBounds_toArray, List.set_cons_zero, List.set_cons_succ]
        refine rtakeF (i := 7) (d := (some 61)) (v := ?_) (n := 40) rfl (by kernel_rfl) (by kernel_rfl) (by kernel_rfl) (by kernel_rfl) (by kernel_rfl) (by kernel_rfl) (fun _ _ _ h => h) (by kernel_rfl) (by assumption) ?_ ?_
        rotate_left 1
        · (intro wI hSI; (try dsimp only at hSI); go_simp; (try with_reducible rfl))
        simp only [Act.put, List.setIfInBounds_toArray, List.set_cons_zero, List.set_cons_succ]
        refine rtakeF (i := 8) (d := (some 62)) (v := ?_) (n := 40) rfl (by kernel_rfl) (by kernel_rfl) (by kernel_rfl) (by kernel_rfl) (by kernel_rfl) (by kernel_rfl) (fun _ _ _ h => h) (by kernel_rfl) (by assumption) ?_ ?_
        rotate_left 1
        · (intro wI hSI; (try dsimp only at hSI); go_simp; (try with_reducible rfl))
        simp only [Act.put, List.setIfInBounds_toArray, List.set_cons_zero, List.set_cons_succ]
        refine rtakeF (i := 9) (d := (some 63)) (v := ?_) (n := 40) rfl (by kernel_rfl) (by kernel_rfl) (by kernel_rfl) (by kernel_rfl) (by kernel_rfl) (by kernel_rfl) (fun _ _ _ h => h) (by kernel_rfl) (by assumption) ?_ ?_
        rotate_left 1
        · (intro wI hSI; (try dsimp only at hSI); go_simp; (try with_reducible rfl))
        simp only [Act.put, List.setIfInBounds_toArray, List.set_cons_zero, List.set_cons_succ]
        refine rtakeF (i := 10) (d := (some 64)) (v := ?_) (n := 40) rfl (by kernel_rfl) (by kernel_rfl) (by kernel_rfl) (by kernel_rfl) (by kernel_rfl) (by kernel_rfl) (fun _ _ _ h => h) (by kernel_rfl) (by assumption) ?_ ?_
        rotate_left 1
        · (intro wI hSI; (try dsimp only at hSI); go_simp; (try with_reducible rfl))
        simp only [Act.put, List.setIfInBounds_toArray, List.set_cons_zero, List.set_cons_succ]
        refine rtakeF (i := 11) (d := (some 65)) (v := ?_) (n := 40) rfl (by kernel_rfl) (by kernel_rfl) (by kernel_rfl) (by kernel_rfl) (by kernel_rfl) (by kernel_rfl) (fun _ _ _ h => h) (by kernel_rfl) (by assumption) ?_ ?_
        rotate_left 1
        · (intro wI hSI; (try dsimp only at hSI); go_simp; (try with_reducible rfl))
        simp only [Act.put, List.setIfInBounds_toArray, List.set_cons_zero, List.set_cons_succ]
        refine rtakeF (i := 12) (d := (some 66)) (v := ?_) (n := 40) rfl (by kernel_rfl) (by kernel_rfl) (by kernel_rfl) (by kernel_rfl) (by kernel_rfl) (by kernel_rfl) (fun _ _ _ h => h) (by kernel_rfl) (by assumption) ?_ ?_
        rotate_left 1
        · (intro wI hSI; (try dsimp only at hSI); go_simp; (try with_reducible rfl))
        simp only [Act.put, List.setIfInBounds_toArray, List.set_cons_zero, List.set_cons_succ]
        refine rtakeF (i := 13) (d := (some 67)) (v := ?_) (n := 40) rfl (by kernel_rfl) (by kernel_rfl) (by kernel_rfl) (by kernel_rfl) (by kernel_rfl) (by kernel_rfl) (fun _ _ _ h => h) (by kernel_rfl) (by assumption) ?_ ?_
        rotate_left 1
        · (intro wI hSI; (try dsimp only at hSI); go_simp; (try with_reducible rfl))
        simp only [Act.put, List.setIfInBounds_toArray, List.set_cons_zero, List.set_cons_succ]
        refine rtakeF (i := 14) (d := (some 68)) (v := ?_) (n := 40) rfl (by kernel_rfl) (by kernel_rfl) (by kernel_rfl) (by kernel_rfl) (by kernel_rfl) (by kernel_rfl) (fun _ _ _ h => h) (by kernel_rfl) (by assumption) ?_ ?_
        rotate_left 1
        · (intro wI hSI; (try dsimp only at hSI); go_simp; (try with_reducible rfl))
        simp only [Act.put, List.setIfInBounds_toArray, List.set_cons_zero, List.set_cons_succ]
        refine rtakeF (i := 15) (d := (some 69)) (v := ?_) (n := 40) rfl (by kernel_rfl) (by kernel_rfl) (by kernel_rfl) (by kernel_rfl) (by kernel_rfl) (by kernel_rfl) (fun _ _ _ h => h) (by kernel_rfl) (by assumption) ?_ ?_
        rotate_left 1
        · (intro wI hSI; (try dsimp only at hSI); go_simp; (try with_reducible rfl))
        simp only [Act.put, List.setIfInBounds_toArray, List.set_cons_zero, List.set_cons_succ]
        have hd4 := hHeld.2.2.2.1
        have hd5 := hHeld.2.2.2.2.1
        refine rcallF (i := 16) (d := none) (by kernel_rfl) rfl (by kernel_rfl) (fun K hK => ?_)
        go_simp
        refine hK.out undef _ (.inl rfl) (fun _ => ?_)
        clear hK K
        simp only [Act.put, List.setIfInBounds_toArray, List.set_cons_zero, List.set_cons_succ]
        refine wpAnyF_done (by kernel_rfl) ?_ _
        have hO2 := (hO1.putRow (j := p) (.int .i64 ((C : Int) + 1)) r).below ((Below.refl _ _).drew)
        have hR2 := (hRp.out.congr (fun j hj i hi => Hc3.out j i)).below ((Below.refl _ _).drew)
        have hbr2 := (hbq1.setCell (p := ⟨w.heap.size + 1 + p, r, none⟩) (by show w.heap.size ≤ w.heap.size + 1 + p; omega) (.int .i64 ((C : Int) + 1))).drew
        have hsz2 : (wz.setCell ⟨w.heap.size + 1 + p, r, none⟩ (.int .i64 ((C : Int) + 1))).drew.heap.size = w.heap.size + 1 + N := by rw [← hsz1]; simp [World.setCell, World.drew]
        clear hRp Hc3 hO1 hR1 hbq1 hsz1 hc1 hc2 hc3 hc4 hc5 hd4 hd5 hHeld
        generalize (wz.setCell ⟨w.heap.size + 1 + p, r, none⟩ (.int .i64 ((C : Int) + 1))).drew = W9 at *
        go_wp2_with fail
        go_roundg r
        case measure => have := hgm.out; omega
        case rel => exact ⟨r, _, by go_num, rfl, by omega, rfl, hO2, hR2, hsz2, hbr2⟩
      · rw [decide_eq_false heq] at hbq
        have hR3 : Rows wr w.heap.size M N (tabT x y (p + 1) r) := hR.congr fun j hj i hi => Hne.out heq j i
        clear heq Heq Hne hz hm0 hR
        go_wp2_with fail
        go_quiet (fail)
        rw [← Hxe.out, ← Hye.out]
        go_wp2_with fail
        go_roundg r
        case measure => have := hgm.out; omega
        case rel => exact ⟨r, _, by go_num, rfl, by omega, rfl, hO.below (hb1 _), hR3.below (hb1 _), hsz, hbr.trans ((hb1 _).mono hbr.size)⟩
end Go.Proofs.YtlpknpjfmacemaaGreatDoor
