/- Overlap: the reference. -/
import Derived.Test.YtlpknpjfmacemaaGreatDoorTwinP
import Derived.Test.YtlpknpjfmacemaaGreatDoorCmpF
import Derived.Deep.RegionWith
namespace Go.Proofs.YtlpknpjfmacemaaGreatDoor
open Go.RowKit
set_option linter.unusedVariables false
set_option linter.unusedSimpArgs false

/-- A part of a whole, as two numbers. -/
def partN (num den : Nat) : Int × Int := if den = 0 then (0, 1) else (lowN num den, lowD num den)
theorem partV_eq (num den : Nat) : partV num den = .agg #[.int .i64 (partN num den).1, .int .i64 (partN num den).2] := by
  unfold partV partN
  split <;> rfl
theorem low_zero {n : Nat} (h : n ≠ 0) : lowN 0 n = 0 ∧ lowD 0 n = 1 := by
  unfold lowN lowD
  rw [Int.gcd_zero_left, Int.zero_ediv]
  exact ⟨rfl, by rw [Int.natAbs_natCast]; exact Int.ediv_self (by omega)⟩
theorem partN_zero (n : Nat) : partN 0 n = (0, 1) := by
  unfold partN
  split
  · rfl
  · rename_i h
    have := low_zero h
    exact Prod.ext this.1 this.2
theorem runsTo_nil (x : List ByteArray) (least : Int) : ∀ i, runsTo x [] least i = []
  | 0 => rfl
  | i + 1 => by rw [runsTo, runsTo_nil x least i]; rfl
theorem cntB_nil (n : Nat) (f : Run3 → Int) : cntB n (inRuns [] f) = 0 := by
  have h := cntB_none n
  exact h
theorem overP_part (x y : List ByteArray) (least : Int) : overP x y least = if (partN (cntX x y least) x.length).1 * (partN (cntY x y least) y.length).2 < (partN (cntY x y least) y.length).1 * (partN (cntX x y least) x.length).2 then partN (cntY x y least) y.length else partN (cntX x y least) x.length := by
  by_cases h : x.length = 0 ∨ y.length = 0
  · have hr : runsL x y least = [] := by
      rcases h with h | h
      · rw [List.length_eq_zero_iff.1 h]; rfl
      · rw [List.length_eq_zero_iff.1 h]; exact runsTo_nil _ _ _
    have e1 : cntX x y least = 0 := by unfold cntX; rw [hr]; exact cntB_nil _ _
    have e2 : cntY x y least = 0 := by unfold cntY; rw [hr]; exact cntB_nil _ _
    rw [e1, e2, partN_zero, partN_zero]
    unfold overP
    rw [if_pos h]
    rfl
  · unfold overP
    rw [if_neg h]
    have a1 : partN (cntX x y least) x.length = (lowN (cntX x y least) x.length, lowD (cntX x y least) x.length) := by unfold partN; rw [if_neg (fun e => h (.inl e))]
    have a2 : partN (cntY x y least) y.length = (lowN (cntY x y least) y.length, lowD (cntY x y least) y.length) := by unfold partN; rw [if_neg (fun e => h (.inr e))]
    rw [a1, a2]
theorem partN_bd {num den : Nat} (hn : num ≤ 600) (hd : den ≤ 600) : 0 ≤ (partN num den).1 ∧ (partN num den).1 ≤ 600 ∧ 1 ≤ (partN num den).2 ∧ (partN num den).2 ≤ 600 := by
  unfold partN
  split
  · exact ⟨by show (0 : Int) ≤ 0; omega, by show (0 : Int) ≤ 600; omega, by show (1 : Int) ≤ 1; omega, by show (1 : Int) ≤ 600; omega⟩
  · have a1 := lowN_bd num den (by omega) (by omega)
    have a2 := lowD_bd num den (by omega)
    exact ⟨a1.1, by show lowN _ _ ≤ _; omega, a2.1, by show lowD _ _ ≤ _; omega⟩
theorem Marks.drew {w : World} {b n : Nat} {p : Nat → Bool} (h : Marks w b n p) : Marks w.drew b n p := h
theorem SA.putC {α : Type} [Cel α] {w : World} {a : Option Addr} {l : List α} (h : SA w a l) {p : Addr} (hp : ∀ x : Addr, a = some x → x.block ≠ p.block) (v : Value) : SA (w.setCell p v) a l := by
  rcases h with h | ⟨b, off, rfl, h⟩
  · exact .inl h
  · exact .inr ⟨b, off, rfl, h.same (Below.heap_setCell _ _ _ _ (hp _ rfl))⟩
theorem Marks.lt {w : World} {b n : Nat} {p : Nat → Bool} (h : Marks w b n p) : b < w.heap.size := by
  obtain ⟨us, h1, h2, h3⟩ := h
  exact h1.lt
theorem mul_bd6 {a b : Int} (h1 : 0 ≤ a) (h2 : a ≤ 600) (h3 : 0 ≤ b) (h4 : b ≤ 600) : 0 ≤ a * b ∧ a * b ≤ 360000 := by
  have h := Int.mul_le_mul h2 h4 h3 (by omega : (0 : Int) ≤ 600)
  exact ⟨Int.mul_nonneg h1 h3, by omega⟩
theorem rtwo {P : Program} {ops : Array Oper} {Q : Exit → Act → World → Prop} {md : Region.Mode} {S : World → Prop} {i j : Nat} {oi oj : Oper} {di dj : Option Tmp} {fuel : Nat} {listed : Array Bool} {a : Act} {w : World}
    (hr : Region.ready md ops listed = [i, j]) (hi : ops[i]? = some oi) (hj : ops[j]? = some oj) (hdi : oi.dst = di) (hdj : oj.dst = dj)
    (h1 : ∀ K' : Act → World → Prop, Shut (∀ v w, S w → (S w → wpAnyH P md ops Q S fuel (listed.setIfInBounds i true) (a.put di v) w) → K' (a.put di v) w) → if Region.wanted oi (yielded ops a.tmps) = true then Oper.wp P oi a w K' Q else K' (a.put di undef) w)
    (h2 : ∀ K' : Act → World → Prop, Shut (∀ v w, S w → (S w → wpAnyH P md ops Q S fuel (listed.setIfInBounds j true) (a.put dj v) w) → K' (a.put dj v) w) → if Region.wanted oj (yielded ops a.tmps) = true then Oper.wp P oj a w K' Q else K' (a.put dj undef) w) :
    wpAnyH P md ops Q S (fuel + 1) listed a w := by
  subst hdi hdj
  exact wpAnyH_ready hr (by simp) (AllReadyH.cons hi (fun K' hK => h1 K' (fun v w hS hh => hK.out _ _ hS hh)) (AllReadyH.cons hj (fun K' hK => h2 K' (fun v w hS hh => hK.out _ _ hS hh)) AllReadyH.nil))
set_option maxRecDepth 100000 in
set_option maxHeartbeats 16000000 in
theorem overlapOf_any (a b : ByteArray) (least : Int) (w : World) (ha : a.size ≤ 100000) (hb : b.size ≤ 100000) (hxl : (wordsS a).length ≤ 600) (hyl : (wordsS b).length ≤ 600) :
    Calls Tryz.prog 31 #[.string a, .string b, .int .i64 least] w (Gives (.agg #[.int .i64 (overP (wordsS a) (wordsS b) least).1, .int .i64 (overP (wordsS a) (wordsS b) least).2]) w) := by
  have HWa := Lib.hid (fun W => wordsOfR_any a W (by omega))
  have HWb := Lib.hid (fun W => wordsOfR_any b W (by omega))
  have HR := Lib.hid (fun W => runsOf_any a b least W ha hb hxl hyl)
  have HIn := Lib.hid (runsL_in (x := wordsS a) (y := wordsS b) (least := least))
  have HLn := runsL_len least hxl hyl
  have HO := Lib.hid (overP_part (wordsS a) (wordsS b) least)
  unfold cntX cntY at HO
  generalize overP (wordsS a) (wordsS b) least = ov at *
  generalize wordsS a = x at *
  generalize wordsS b = y at *
  generalize runsL x y least = rs at *
  have hmx := run_make_len (P := Tryz.prog) 126 4 (.bool false) 1 (by kernel_rfl) Tryz.infoDB rfl x.length (by omega) (by omega)
  have hmy := run_make_len (P := Tryz.prog) 126 4 (.bool false) 1 (by kernel_rfl) Tryz.infoDB rfl y.length (by omega) (by omega)
  go_enter Tryz.func31, Tryz.ntmps31
  go_upto_region 1 with (fail)
  go_cut [7, 8] from 15 to 22 (fun vx vy wx => ∃ bx bz : Nat, vx = .slice (some ⟨bx, 0, none⟩) x.length x.length ∧ vy = .slice (some ⟨bz, 0, none⟩) y.length y.length ∧ ∃ W' : World, W' = wx ∧ bx ≠ bz ∧ w.heap.size + 1 ≤ bx ∧ w.heap.size + 1 ≤ bz ∧ Marks W' bx x.length (fun _ => false) ∧ Marks W' bz y.length (fun _ => false) ∧ Below w.heap.size w W' ∧ Box W' w.heap.size 62 #[.int .i64 0, .int .i64 0])
  case first =>
    refine wp_region_held_drew (S := (fun _ => True)) (by kernel_rfl) ?hS (fun hHeld => ?_)
    case hS => trivial
    refine rtake (i := 0) (d := (some 15)) (v := ?_) rfl (by kernel_rfl) (by kernel_rfl) (by kernel_rfl) (by kernel_rfl) (fun _ _ _ h => h) (by kernel_rfl) (by assumption) ?_ ?_
    rotate_left 1
    · (intro wI hSI; (try dsimp only at hSI); go_simp; (try with_reducible rfl))
    simp only [Act.put, List.setIfInBounds_toArray, List.set_cons_zero, List.set_cons_succ]
    refine rtake (i := 4) (d := (some 19)) (v := ?_) rfl (by kernel_rfl) (by kernel_rfl) (by kernel_rfl) (by kernel_rfl) (fun _ _ _ h => h) (by kernel_rfl) (by assumption) ?_ ?_
    rotate_left 1
    · (intro wI hSI; (try dsimp only at hSI); go_simp; (try with_reducible rfl))
    simp only [Act.put, List.setIfInBounds_toArray, List.set_cons_zero, List.set_cons_succ]
    refine rcall (i := 1) (d := (some 16)) (by kernel_rfl) rfl (by kernel_rfl) (fun K hK => ?_)
    go_simp
    go_at_call 10; refine (HWa.out _).mono ?_; rintro e w1 ⟨v1, rfl, hown1, hb1⟩; obtain ⟨xa, xc, rfl, hx1, -, -⟩ := hown1.sa; dsimp only
    refine hK.out _ _ ?hS (fun hHeld => ?_)
    case hS => trivial
    clear hK K
    simp only [Act.put, List.setIfInBounds_toArray, List.set_cons_zero, List.set_cons_succ]
    refine rtake (i := 2) (d := (some 17)) (v := ?_) rfl (by kernel_rfl) (by kernel_rfl) (by kernel_rfl) (by kernel_rfl) (fun _ _ _ h => h) (by kernel_rfl) (by assumption) ?_ ?_
    rotate_left 1
    · (intro wI hSI; (try dsimp only at hSI); go_simp; (try with_reducible rfl))
    simp only [Act.put, List.setIfInBounds_toArray, List.set_cons_zero, List.set_cons_succ]
    have hz1 := hb1.size
    simp only [World.size_drew, World.size_alloc] at hz1
    have hbA : Below w.heap.size w w1 := ((Below.refl w.heap.size w).alloc (Nat.le_refl _) _).drew.trans (hb1.mono (by simp))
    have hFA := (Box.new w 62 #[.int .i64 0, .int .i64 0]).drew.below hb1
    refine rtwo (i := 3) (j := 5) (di := (some 18)) (dj := (some 20)) (by kernel_rfl) rfl rfl (by kernel_rfl) (by kernel_rfl) (fun K hK => ?_) (fun K hK => ?_)
    · go_simp
      refine hK.out _ _ trivial (fun hHeld => ?_)
      clear hK K
      simp only [Act.put, List.setIfInBounds_toArray, List.set_cons_zero, List.set_cons_succ]
      refine rcall (i := 5) (d := (some 20)) (by kernel_rfl) rfl (by kernel_rfl) (fun K hK => ?_)
      go_simp
      go_at_call 10; refine (HWb.out _).mono ?_; rintro e w2 ⟨v2, rfl, hown2, hb2⟩; obtain ⟨ya, yc, rfl, hy2, -, -⟩ := hown2.sa; dsimp only
      refine hK.out _ _ ?hS (fun hHeld => ?_)
      case hS => trivial
      clear hK K
      simp only [Act.put, List.setIfInBounds_toArray, List.set_cons_zero, List.set_cons_succ]
      refine rtake (i := 6) (d := (some 21)) (v := ?_) rfl (by kernel_rfl) (by kernel_rfl) (by kernel_rfl) (by kernel_rfl) (fun _ _ _ h => h) (by kernel_rfl) (by assumption) ?_ ?_
      rotate_left 1
      · (intro wI hSI; (try dsimp only at hSI); go_simp; (try with_reducible rfl))
      simp only [Act.put, List.setIfInBounds_toArray, List.set_cons_zero, List.set_cons_succ]
      refine rtake (i := 8) (d := (some 7)) (v := ?_) rfl (by kernel_rfl) (by kernel_rfl) (by kernel_rfl) (by kernel_rfl) (fun _ _ _ h => h) (by kernel_rfl) (by assumption) ?_ ?_
      rotate_left 1
      · (intro wI hSI; (try dsimp only at hSI); go_simp; (try with_reducible rfl))
      simp only [Act.put, List.setIfInBounds_toArray, List.set_cons_zero, List.set_cons_succ]
      refine rcall (i := 7) (d := (some 22)) (by kernel_rfl) rfl (by kernel_rfl) (fun K hK => ?_)
      go_simp
      refine hK.out _ _ ?hS (fun hHeld => ?_)
      case hS => trivial
      clear hK K
      simp only [Act.put, List.setIfInBounds_toArray, List.set_cons_zero, List.set_cons_succ]
      refine rtake (i := 9) (d := (some 8)) (v := ?_) rfl (by kernel_rfl) (by kernel_rfl) (by kernel_rfl) (by kernel_rfl) (fun _ _ _ h => h) (by kernel_rfl) (by assumption) ?_ ?_
      rotate_left 1
      · (intro wI hSI; (try dsimp only at hSI); go_simp; (try with_reducible rfl))
      simp only [Act.put, List.setIfInBounds_toArray, List.set_cons_zero, List.set_cons_succ]
      refine wpAnyH_done (by kernel_rfl) ?_ _
      go_wp2_with fail
      go_meet
      have hz2 := hb2.size
      simp only [World.size_alloc] at hz2
      have hM := (Marks.new w1 x.length).below hb2
      exact ⟨w1.heap.size, w2.heap.size, rfl, rfl, _, rfl, by omega, by omega, by omega, hM.alloc _, Marks.new _ _, ((hbA.alloc (by omega) _).trans (hb2.mono (by simp; omega))).alloc (by omega) _, (((hFA.alloc _).below hb2).alloc _)⟩
    · go_simp
      go_at_call 10
      refine (HWb.out _).mono ?_
      rintro e w2 ⟨v2, rfl, hown2, hb2⟩
      obtain ⟨ya, yc, rfl, hy2, -, -⟩ := hown2.sa
      dsimp only
      refine hK.out _ _ trivial (fun hHeld => ?_)
      clear hK K
      simp only [Act.put, List.setIfInBounds_toArray, List.set_cons_zero, List.set_cons_succ]
      refine rtake (i := 6) (d := (some 21)) (v := ?_) rfl (by kernel_rfl) (by kernel_rfl) (by kernel_rfl) (by kernel_rfl) (fun _ _ _ h => h) (by kernel_rfl) (by assumption) ?_ ?_
      rotate_left 1
      · (intro wI hSI; (try dsimp only at hSI); go_simp; (try with_reducible rfl))
      simp only [Act.put, List.setIfInBounds_toArray, List.set_cons_zero, List.set_cons_succ]
      have hz2 := hb2.size
      have hbB := hbA.trans (hb2.mono (by omega))
      have hFB := hFA.below hb2
      refine rtwo (i := 3) (j := 7) (di := (some 18)) (dj := (some 22)) (by kernel_rfl) rfl rfl (by kernel_rfl) (by kernel_rfl) (fun K hK => ?_) (fun K hK => ?_)
      · go_simp
        refine hK.out _ _ trivial (fun hHeld => ?_)
        clear hK K
        simp only [Act.put, List.setIfInBounds_toArray, List.set_cons_zero, List.set_cons_succ]
        refine rtake (i := 8) (d := (some 7)) (v := ?_) rfl (by kernel_rfl) (by kernel_rfl) (by kernel_rfl) (by kernel_rfl) (fun _ _ _ h => h) (by kernel_rfl) (by assumption) ?_ ?_
        rotate_left 1
        · (intro wI hSI; (try dsimp only at hSI); go_simp; (try with_reducible rfl))
        simp only [Act.put, List.setIfInBounds_toArray, List.set_cons_zero, List.set_cons_succ]
        refine rcall (i := 7) (d := (some 22)) (by kernel_rfl) rfl (by kernel_rfl) (fun K hK => ?_)
        go_simp
        refine hK.out _ _ ?hS (fun hHeld => ?_)
        case hS => trivial
        clear hK K
        simp only [Act.put, List.setIfInBounds_toArray, List.set_cons_zero, List.set_cons_succ]
        refine rtake (i := 9) (d := (some 8)) (v := ?_) rfl (by kernel_rfl) (by kernel_rfl) (by kernel_rfl) (by kernel_rfl) (fun _ _ _ h => h) (by kernel_rfl) (by assumption) ?_ ?_
        rotate_left 1
        · (intro wI hSI; (try dsimp only at hSI); go_simp; (try with_reducible rfl))
        simp only [Act.put, List.setIfInBounds_toArray, List.set_cons_zero, List.set_cons_succ]
        refine wpAnyH_done (by kernel_rfl) ?_ _
        go_wp2_with fail
        go_meet
        have hMY := Marks.new (w2.alloc (.cells (Array.replicate x.length (.bool false)) 4)) y.length
        simp only [World.size_alloc] at hMY
        exact ⟨w2.heap.size, w2.heap.size + 1, rfl, rfl, _, rfl, by omega, by omega, by omega, (Marks.new _ _).alloc _, hMY, (hbB.alloc (by omega) _).alloc (by simp; omega) _, (hFB.alloc _).alloc _⟩
      · go_simp
        refine hK.out _ _ trivial (fun hHeld => ?_)
        clear hK K
        simp only [Act.put, List.setIfInBounds_toArray, List.set_cons_zero, List.set_cons_succ]
        refine rcall (i := 3) (d := (some 18)) (by kernel_rfl) rfl (by kernel_rfl) (fun K hK => ?_)
        go_simp
        refine hK.out _ _ ?hS (fun hHeld => ?_)
        case hS => trivial
        clear hK K
        simp only [Act.put, List.setIfInBounds_toArray, List.set_cons_zero, List.set_cons_succ]
        refine rtake (i := 8) (d := (some 7)) (v := ?_) rfl (by kernel_rfl) (by kernel_rfl) (by kernel_rfl) (by kernel_rfl) (fun _ _ _ h => h) (by kernel_rfl) (by assumption) ?_ ?_
        rotate_left 1
        · (intro wI hSI; (try dsimp only at hSI); go_simp; (try with_reducible rfl))
        simp only [Act.put, List.setIfInBounds_toArray, List.set_cons_zero, List.set_cons_succ]
        refine rtake (i := 9) (d := (some 8)) (v := ?_) rfl (by kernel_rfl) (by kernel_rfl) (by kernel_rfl) (by kernel_rfl) (fun _ _ _ h => h) (by kernel_rfl) (by assumption) ?_ ?_
        rotate_left 1
        · (intro wI hSI; (try dsimp only at hSI); go_simp; (try with_reducible rfl))
        simp only [Act.put, List.setIfInBounds_toArray, List.set_cons_zero, List.set_cons_succ]
        refine wpAnyH_done (by kernel_rfl) ?_ _
        go_wp2_with fail
        go_meet
        have hMX := Marks.new (w2.alloc (.cells (Array.replicate y.length (.bool false)) 4)) x.length
        simp only [World.size_alloc] at hMX
        exact ⟨w2.heap.size + 1, w2.heap.size, rfl, rfl, _, rfl, by omega, by omega, by omega, hMX, (Marks.new _ _).alloc _, (hbB.alloc (by omega) _).alloc (by simp; omega) _, (hFB.alloc _).alloc _⟩
  case rest =>
    clear HWa HWb hmx hmy
    obtain ⟨bx, bz, rfl, rfl, W', rfl, hne, hx1, hz1, hMx, hMz, hbW, hFW⟩ := hcut
    go_wp2_with fail
    refine (HR.out _).mono ?_
    rintro e w3 ⟨v3, rfl, hown3, hb3⟩
    obtain ⟨ra, rc, rfl, hrs, hra, -⟩ := hown3.sa
    have hM1 := hMx.below hb3
    have hM2 := hMz.below hb3
    have hF3 := hFW.below hb3
    have hbz := hbW.trans (hb3.mono hbW.size)
    have hlx := hMx.lt
    have hlz := hMz.lt
    have Hra : Hid (∀ xx : Addr, ra = some xx → xx.block ≠ bx ∧ xx.block ≠ bz ∧ xx.block < w3.heap.size) := fun xx e => by have := hra xx e; omega
    have hsz3 := hb3.size
    clear HR hown3 hra hMx hMz hFW hbW hb3
    go_wp2_with fail
    go_loopg [28] rs.length (fun gk i wr => ∃ k : Nat, i = .int .i64 k ∧ k ≤ rs.length ∧ Hid (gk = rs.length - k) ∧ Marks wr bx x.length (inRuns (rs.take k) (fun r => r.1)) ∧ Marks wr bz y.length (inRuns (rs.take k) (fun r => r.2.1)) ∧ Box wr w.heap.size 62 #[.int .i64 0, .int .i64 0] ∧ SA wr ra rs ∧ w3.heap.size ≤ wr.heap.size ∧ Below w.heap.size w wr)
    case atStart => exact ⟨0, rfl, by omega, rfl, hM1.congr (fun i _ => rfl), hM2.congr (fun i _ => rfl), hF3, hrs, Nat.le_refl _, hbz⟩
    clear hM1 hM2 hF3 hrs hbz
    obtain ⟨k, rfl, hk, hgk, hM1, hM2, hF, hrs, hz3, hbr⟩ := hrel
    have hk1 : (0 : Int) ≤ (k : Int) := by omega
    by_cases hlt : k < rs.length
    · have hk2 : (k : Int) < (rs.length : Int) := by omega
      have hin := HIn.out _ (List.getElem_mem hlt)
      obtain ⟨rb, ro, hre, c0, c1, c2⟩ := hrs.run3 hlt
      have hsn1 := fun i => inRuns_snoc (rs.take k) rs[k] (fun r => r.1) i
      have hsn2 := fun i => inRuns_snoc (rs.take k) rs[k] (fun r => r.2.1) i
      rw [List.take_append_getElem hlt] at hsn1 hsn2
      have Hsn1 := Lib.hid hsn1
      have Hsn2 := Lib.hid hsn2
      clear hsn1 hsn2
      have Hre := Lib.hid hre
      rw [hre]
      clear hre
      obtain ⟨v1, hv1⟩ : ∃ v, inRuns (rs.take k) (fun r => r.1) = v := ⟨_, rfl⟩
      obtain ⟨v2, hv2⟩ : ∃ v, inRuns (rs.take k) (fun r => r.2.1) = v := ⟨_, rfl⟩
      rw [hv1] at hM1 Hsn1
      rw [hv2] at hM2 Hsn2
      clear hv1 hv2
      generalize rs[k] = r at *
      obtain ⟨r1, r2, r3⟩ := r
      obtain ⟨hr1, hr2, hr3, hr4, hr5⟩ := hin
      simp only at c0 c1 c2 hr1 hr2 hr3 hr4 hr5 Hsn1 Hsn2
      obtain ⟨f1, rfl⟩ := Int.eq_ofNat_of_zero_le hr1
      obtain ⟨f2, rfl⟩ := Int.eq_ofNat_of_zero_le hr2
      obtain ⟨f3, rfl⟩ := Int.eq_ofNat_of_zero_le hr3
      generalize wr = wo at *
      have hMa := hM1.alloc (.cells #[.int .i64 f1, .int .i64 f2, .int .i64 f3] 69)
      have hMb := hM2.alloc (.cells #[.int .i64 f1, .int .i64 f2, .int .i64 f3] 69)
      have hFa := hF.alloc (.cells #[.int .i64 f1, .int .i64 f2, .int .i64 f3] 69)
      have hsa := hrs.alloc (.cells #[.int .i64 f1, .int .i64 f2, .int .i64 f3] 69)
      have hRa := Box.new wo 69 #[.int .i64 f1, .int .i64 f2, .int .i64 f3]
      have hba := hbr.alloc hbr.size (.cells #[.int .i64 f1, .int .i64 f2, .int .i64 f3] 69)
      have hRa_l := hRa.lt; have hRa_0 := hRa.cell 0; have hRa_1 := hRa.cell 1; have hRa_2 := hRa.cell 2; simp at hRa_0 hRa_1 hRa_2
      clear hM1 hM2 hF hrs hbr
      go_wp2_with fail
      clear hRa_l hRa_0 hRa_1 hRa_2
      go_loopg [34] f3 (fun gq i wr => ∃ q : Nat, i = .int .i64 q ∧ q ≤ f3 ∧ Hid (gq = f3 - q) ∧ Marks wr bx x.length (someB v1 f1 q) ∧ Marks wr bz y.length (someB v2 f2 q) ∧ Box wr w.heap.size 62 #[.int .i64 0, .int .i64 0] ∧ SA wr ra rs ∧ Box wr wo.heap.size 69 #[.int .i64 f1, .int .i64 f2, .int .i64 f3] ∧ wo.heap.size + 1 ≤ wr.heap.size ∧ Below w.heap.size w wr)
      case atStart => exact ⟨0, rfl, by omega, rfl, hMa.congr (fun i _ => (someB_zero v1 f1 i).symm), hMb.congr (fun i _ => (someB_zero v2 f2 i).symm), hFa, hsa, hRa, by simp, hba⟩
      clear hMa hMb hFa hsa hRa hba
      obtain ⟨q, rfl, hq, hgq, hM1, hM2, hF, hrs, hR, hz4, hbr⟩ := hrel
      have hq1 : (0 : Int) ≤ (q : Int) := by omega
      by_cases hql : q < f3
      · have hq2 : (q : Int) < (f3 : Int) := by omega
        have hw1 : IntKind.i64.wrap ((f1 : Int) + (q : Int)) = ((f1 + q : Nat) : Int) := by rw [IntWalk.i64_in _ (by omega)]; omega
        have hw2 : IntKind.i64.wrap ((f2 : Int) + (q : Int)) = ((f2 + q : Nat) : Int) := by rw [IntWalk.i64_in _ (by omega)]; omega
        have Hs1 := Lib.hid (fun i => someB_succ v1 (a := (f1 : Int)) (i := f1 + q) q (by omega) i)
        have Hs2 := Lib.hid (fun i => someB_succ v2 (a := (f2 : Int)) (i := f2 + q) q (by omega) i)
        have hj1 : f1 + q < x.length := by omega
        have hj2 : f2 + q < y.length := by omega
        generalize f1 + q = j1 at *
        generalize f2 + q = j2 at *
        have hi1 : (0 : Int) ≤ (j1 : Int) := by omega
        have hi2 : (j1 : Int) < (x.length : Int) := by omega
        have hi3 : (0 : Int) ≤ (j2 : Int) := by omega
        have hi4 : (j2 : Int) < (y.length : Int) := by omega
        have hc1 := hM1.cell hj1
        have hc2 := hM2.cell hj2
        have hf1 := hM1.frozen j1
        have hf2 := hM2.frozen j2
        have hR_l := hR.lt; have hR_0 := hR.cell 0; have hR_1 := hR.cell 1; have hR_2 := hR.cell 2; simp at hR_0 hR_1 hR_2
        go_wp2_with fail
        refine wp_region_held_drew (S := (fun wx => wx.cell? ⟨wo.heap.size, 0, none⟩ = some (.int .i64 f1) ∧ wx.cell? ⟨wo.heap.size, 1, none⟩ = some (.int .i64 f2))) (by kernel_rfl) ?hS (fun hHeld => ?_)
        case hS => exact ⟨hR_0, hR_1⟩
        refine rtake (i := 0) (d := (some 37)) (v := ?_) rfl (by kernel_rfl) (by kernel_rfl) (by kernel_rfl) (by kernel_rfl) (fun _ _ _ h => h) (by kernel_rfl) (by assumption) ?_ ?_
        rotate_left 1
        · (intro wI hSI; (try dsimp only at hSI); go_simp; (try with_reducible rfl))
        simp only [Act.put, List.setIfInBounds_toArray, List.set_cons_zero, List.set_cons_succ]
        refine rtake (i := 1) (d := (some 38)) (v := ?_) rfl (by kernel_rfl) (by kernel_rfl) (by kernel_rfl) (by kernel_rfl) (fun _ _ _ h => h) (by kernel_rfl) (by assumption) ?_ ?_
        rotate_left 1
        · (intro wI hSI; (try dsimp only at hSI); go_simp; (try with_reducible rfl))
        simp only [Act.put, List.setIfInBounds_toArray, List.set_cons_zero, List.set_cons_succ]
        refine rtake (i := 2) (d := (some 39)) (v := ?_) rfl (by kernel_rfl) (by kernel_rfl) (by kernel_rfl) (by kernel_rfl) (fun _ _ _ h => h) (by kernel_rfl) (by assumption) ?_ ?_
        rotate_left 1
        · (intro wI hSI; (try dsimp only at hSI); go_simp; (try with_reducible rfl))
        simp only [Act.put, List.setIfInBounds_toArray, List.set_cons_zero, List.set_cons_succ]
        refine rtake (i := 3) (d := (some 40)) (v := ?_) rfl (by kernel_rfl) (by kernel_rfl) (by kernel_rfl) (by kernel_rfl) (fun _ _ _ h => h) (by kernel_rfl) (by assumption) ?_ ?_
        rotate_left 1
        · (intro wI hSI; (try dsimp only at hSI); go_simp; (try with_reducible rfl))
        simp only [Act.put, List.setIfInBounds_toArray, List.set_cons_zero, List.set_cons_succ]
        refine rtake (i := 4) (d := (some 41)) (v := ?_) rfl (by kernel_rfl) (by kernel_rfl) (by kernel_rfl) (by kernel_rfl) (fun _ _ _ h => h) (by kernel_rfl) (by assumption) ?_ ?_
        rotate_left 1
        · (intro wI hSI; (try dsimp only at hSI); go_simp; (try with_reducible rfl))
        simp only [Act.put, List.setIfInBounds_toArray, List.set_cons_zero, List.set_cons_succ]
        refine rtake (i := 5) (d := (some 42)) (v := ?_) rfl (by kernel_rfl) (by kernel_rfl) (by kernel_rfl) (by kernel_rfl) (fun _ _ _ h => h) (by kernel_rfl) (by assumption) ?_ ?_
        rotate_left 1
        · (intro wI hSI; (try dsimp only at hSI); go_simp; (try with_reducible rfl))
        simp only [Act.put, List.setIfInBounds_toArray, List.set_cons_zero, List.set_cons_succ]
        refine rtake (i := 6) (d := (some 43)) (v := ?_) rfl (by kernel_rfl) (by kernel_rfl) (by kernel_rfl) (by kernel_rfl) (fun _ _ _ h => h) (by kernel_rfl) (by assumption) ?_ ?_
        rotate_left 1
        · (intro wI hSI; (try dsimp only at hSI); go_simp; (try with_reducible rfl))
        simp only [Act.put, List.setIfInBounds_toArray, List.set_cons_zero, List.set_cons_succ]
        refine rtake (i := 7) (d := (some 44)) (v := ?_) rfl (by kernel_rfl) (by kernel_rfl) (by kernel_rfl) (by kernel_rfl) (fun _ _ _ h => h) (by kernel_rfl) (by assumption) ?_ ?_
        rotate_left 1
        · (intro wI hSI; (try dsimp only at hSI); go_simp; (try with_reducible rfl))
        simp only [Act.put, List.setIfInBounds_toArray, List.set_cons_zero, List.set_cons_succ]
        refine rtake (i := 8) (d := (some 45)) (v := ?_) rfl (by kernel_rfl) (by kernel_rfl) (by kernel_rfl) (by kernel_rfl) (fun _ _ _ h => h) (by kernel_rfl) (by assumption) ?_ ?_
        rotate_left 1
        · (intro wI hSI; (try dsimp only at hSI); go_simp; (try with_reducible rfl))
        simp only [Act.put, List.setIfInBounds_toArray, List.set_cons_zero, List.set_cons_succ]
        refine rtake (i := 9) (d := (some 46)) (v := ?_) rfl (by kernel_rfl) (by kernel_rfl) (by kernel_rfl) (by kernel_rfl) (fun _ _ _ h => h) (by kernel_rfl) (by assumption) ?_ ?_
        rotate_left 1
        · (intro wI hSI; (try dsimp only at hSI); go_simp; (try with_reducible rfl))
        simp only [Act.put, List.setIfInBounds_toArray, List.set_cons_zero, List.set_cons_succ]
        refine rtake (i := 10) (d := (some 47)) (v := ?_) rfl (by kernel_rfl) (by kernel_rfl) (by kernel_rfl) (by kernel_rfl) (fun _ _ _ h => h) (by kernel_rfl) (by assumption) ?_ ?_
        rotate_left 1
        · (intro wI hSI; (try dsimp only at hSI); go_simp; (try with_reducible rfl))
        simp only [Act.put, List.setIfInBounds_toArray, List.set_cons_zero, List.set_cons_succ]
        have hR1 := hR.setOther (p := ⟨bx, j1, none⟩) (by show bx ≠ wo.heap.size; omega) (.bool true)
        have hM2a := hM2.putOther (a := ⟨bx, j1, none⟩) hne (.bool true)
        have hc2a := hM2a.cell hj2
        have hf2a := hM2a.frozen j2
        refine rcall (i := 11) (d := none) (by kernel_rfl) rfl (by kernel_rfl) (fun K hK => ?_)
        go_simp
        refine hK.out undef _ ?hS (fun hHeld => ?_)
        case hS => exact ⟨hR1.cell 0, hR1.cell 1⟩
        clear hK K
        simp only [Act.put, List.setIfInBounds_toArray, List.set_cons_zero, List.set_cons_succ]
        refine rtake (i := 12) (d := (some 48)) (v := ?_) rfl (by kernel_rfl) (by kernel_rfl) (by kernel_rfl) (by kernel_rfl) (fun _ _ _ h => h) (by kernel_rfl) (by assumption) ?_ ?_
        rotate_left 1
        · (intro wI hSI; (try dsimp only at hSI); go_simp; (try with_reducible rfl))
        simp only [Act.put, List.setIfInBounds_toArray, List.set_cons_zero, List.set_cons_succ]
        have hR2 := hR1.setOther (p := ⟨bz, j2, none⟩) (by show bz ≠ wo.heap.size; omega) (.bool true)
        refine rcall (i := 13) (d := none) (by kernel_rfl) rfl (by kernel_rfl) (fun K hK => ?_)
        go_simp
        refine hK.out undef _ ?hS (fun hHeld => ?_)
        case hS => exact ⟨hR2.cell 0, hR2.cell 1⟩
        clear hK K
        simp only [Act.put, List.setIfInBounds_toArray, List.set_cons_zero, List.set_cons_succ]
        refine wpAnyH_done (by kernel_rfl) ?_ _
        have hM1b := (((hM1.put hj1).congr (fun i _ => Hs1.out i)).putOther (a := ⟨bz, j2, none⟩) (fun e => hne e.symm) (.bool true)).drew
        have hM2b := ((hM2a.put hj2).congr (fun i _ => Hs2.out i)).drew
        have hFb := ((hF.setOther (p := ⟨bx, j1, none⟩) (by show bx ≠ w.heap.size; omega) (.bool true)).setOther (p := ⟨bz, j2, none⟩) (by show bz ≠ w.heap.size; omega) (.bool true)).drew
        have hrsb := ((hrs.putC (p := ⟨bx, j1, none⟩) (fun xx e => (Hra.out xx e).1) (.bool true)).putC (p := ⟨bz, j2, none⟩) (fun xx e => (Hra.out xx e).2.1) (.bool true)).drew
        have hbb := ((hbr.setCell (p := ⟨bx, j1, none⟩) (by show w.heap.size ≤ bx; omega) (.bool true)).setCell (p := ⟨bz, j2, none⟩) (by show w.heap.size ≤ bz; omega) (.bool true)).drew
        have hzb : wo.heap.size + 1 ≤ ((wr.setCell ⟨bx, j1, none⟩ (.bool true)).setCell ⟨bz, j2, none⟩ (.bool true)).drew.heap.size := by simp [World.setCell]; omega
        have hRb := hR2.drew
        clear hM1 hM2 hM2a hF hrs hbr hR hR1 hR2 hc1 hc2 hf1 hf2 hc2a hf2a hR_l hR_0 hR_1 hR_2 Hs1 Hs2 hHeld
        go_wp2_with fail
        go_roundg (f3 - (q + 1))
        case measure => have := hgq.out; omega
        case rel => exact ⟨q + 1, by go_num, by omega, rfl, hM1b, hM2b, hFb, hrsb, hRb, hzb, hbb⟩
      · obtain rfl : q = f3 := by omega
        have he1 : ∀ i, someB v1 f1 q i = inRuns (rs.take (k + 1)) (fun r => r.1) i := fun i => by rw [Hsn1.out i]; rfl
        have he2 : ∀ i, someB v2 f2 q i = inRuns (rs.take (k + 1)) (fun r => r.2.1) i := fun i => by rw [Hsn2.out i]; rfl
        have hM1b := hM1.congr (fun i _ => he1 i)
        have hM2b := hM2.congr (fun i _ => he2 i)
        clear hM1 hM2 he1 he2 Hsn1 Hsn2
        go_wp2_with fail
        rw [← Hre.out]
        go_roundg (rs.length - (k + 1))
        case measure => have := hgk.out; omega
        case rel => exact ⟨k + 1, by go_num, by omega, rfl, hM1b, hM2b, hF, hrs, by omega, hbr⟩
    · obtain rfl : k = rs.length := by omega
      rw [List.take_length] at hM1 hM2
      generalize inRuns rs (fun r => r.1) = p1 at *
      generalize inRuns rs (fun r => r.2.1) = p2 at *
      have hl1 := cntB_le x.length p1
      have hl2 := cntB_le y.length p2
      have hb1 := partN_bd (num := cntB x.length p1) (den := x.length) (by omega) hxl
      have hb2 := partN_bd (num := cntB y.length p2) (den := y.length) (by omega) hyl
      have HC1 := Lib.hid (fun W h => count_any bx x.length x.length p1 W h (by omega))
      have HC2 := Lib.hid (fun W h => count_any bz y.length y.length p2 W h (by omega))
      rw [partV_eq] at HC1 HC2
      generalize partN (cntB x.length p1) x.length = P1 at *
      generalize partN (cntB y.length p2) y.length = P2 at *
      obtain ⟨a1, a2⟩ := P1
      obtain ⟨b1, b2⟩ := P2
      simp only at hb1 hb2 HC1 HC2 HO
      clear hl1 hl2 hrs hgk hk hlt hk1 HIn Hra HLn
      have HCm := Lib.hid (fun W => cmpFracR_any a1 a2 b1 b2 W (by have h := mul_bd6 hb1.1 hb1.2.1 (by omega : 0 ≤ b2) hb2.2.2.2; omega) (by have h := mul_bd6 hb2.1 hb2.2.1 (by omega : 0 ≤ a2) hb1.2.2.2; omega))
      have hcz := compareI_neg (a1 * b2) (b1 * a2)
      generalize Lib.compareInt (a1 * b2) (b1 * a2) = cz at *
      go_wp2_with fail
      refine (HC1.out _ hM1).mono ?_
      rintro e w4 ⟨rfl, hb4⟩
      have hM1b := hM1.below hb4
      have hM2b := hM2.below hb4
      have hFb := hF.below hb4
      have hbb := hbr.trans (hb4.mono hbr.size)
      clear hM1 hM2 hF hbr hb4
      go_wp2_with fail
      refine (HC2.out _ hM2b).mono ?_
      rintro e w5 ⟨rfl, hb5⟩
      have hM1c := ((hM1b.below hb5).alloc (.cells #[.int .i64 a1, .int .i64 a2] 62)).alloc (.cells #[.int .i64 b1, .int .i64 b2] 62)
      have hFc := ((hFb.below hb5).alloc (.cells #[.int .i64 a1, .int .i64 a2] 62)).alloc (.cells #[.int .i64 b1, .int .i64 b2] 62)
      have hGc := Box.newAt (w5.alloc (.cells #[.int .i64 a1, .int .i64 a2] 62)) (w5.heap.size + 1) 62 #[.int .i64 b1, .int .i64 b2] (by simp)
      have hbc := ((hbb.trans (hb5.mono hbb.size)).alloc (by have := hbb.size; have := hb5.size; omega) (.cells #[.int .i64 a1, .int .i64 a2] 62)).alloc (by have := hbb.size; have := hb5.size; simp; omega) (.cells #[.int .i64 b1, .int .i64 b2] 62)
      clear hM1b hM2b hFb hbb hb5
      go_wp2_with fail
      refine (HCm.out _).mono ?_
      rintro e w6 ⟨rfl, hg6⟩
      have hM1d := hM1c.below hg6.1
      have hFd := hFc.below hg6.1
      have hGd := hGc.below hg6.1
      have hbd := hbc.trans (hg6.1.mono hbc.size)
      clear hM1c hFc hGc hbc hg6
      by_cases hlt : a1 * b2 < b1 * a2
      · have hzd : decide (cz < 0) = true := decide_eq_true (hcz.2 hlt)
        have Hov : Hid (ov = (b1, b2)) := by show _ = _; rw [HO.out, if_pos hlt]
        have hGd_l := hGd.lt; have hGd_0 := hGd.cell 0; have hGd_1 := hGd.cell 1; simp at hGd_0 hGd_1
        have hFd_l := hFd.lt; have hFd_0 := hFd.cell 0; have hFd_1 := hFd.cell 1; simp at hFd_0 hFd_1
        have hFd_f0 := hFd.frozen 0; have hFd_f1 := hFd.frozen 1
        clear hlt HO hcz
        go_wp2_with fail
        refine bodyPost_ret (v := .agg #[.int .i64 b1, .int .i64 b2]) (by simp only [results, Tryz.results31]; go_simp) rfl ⟨by rw [Hov.out], ?_⟩
        exact (hbd.setCell (p := ⟨w.heap.size, 0, none⟩) (Nat.le_refl _) _).setCell (p := ⟨w.heap.size, 1, none⟩) (Nat.le_refl _) _
      · have hzd : decide (cz < 0) = false := decide_eq_false (fun e => hlt (hcz.1 e))
        have Hov : Hid (ov = (a1, a2)) := by show _ = _; rw [HO.out, if_neg hlt]
        clear hlt HO hcz hGd
        go_wp2_with fail
        refine (HC1.out _ hM1d).mono ?_
        rintro e w7 ⟨rfl, hb7⟩
        have hFe := hFd.below hb7
        have hbe := hbd.trans (hb7.mono hbd.size)
        have hFe_l := hFe.lt; have hFe_0 := hFe.cell 0; have hFe_1 := hFe.cell 1; simp at hFe_0 hFe_1
        have hFe_f0 := hFe.frozen 0; have hFe_f1 := hFe.frozen 1
        go_wp2_with fail
        refine bodyPost_ret (v := .agg #[.int .i64 a1, .int .i64 a2]) (by simp only [results, Tryz.results31]; go_simp) rfl ⟨by rw [Hov.out], ?_⟩
        exact (hbe.setCell (p := ⟨w.heap.size, 0, none⟩) (Nat.le_refl _) _).setCell (p := ⟨w.heap.size, 1, none⟩) (Nat.le_refl _) _
end Go.Proofs.YtlpknpjfmacemaaGreatDoor
