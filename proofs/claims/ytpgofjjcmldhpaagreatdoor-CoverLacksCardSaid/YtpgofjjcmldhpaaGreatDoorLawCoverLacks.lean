/- For every list of raw numbers, CoverLacks returns true. The walk. -/
import Derived.Test.YtpgofjjcmldhpaaGreatDoorMakePaper2
import Derived.Test.YtpgofjjcmldhpaaGreatDoorMakeReaders
import Derived.Test.YtpgofjjcmldhpaaGreatDoorMakeBids
import Derived.Test.YtpgofjjcmldhpaaGreatDoorFrac
import Derived.Test.YtpgofjjcmldhpaaGreatDoorOdd
import Derived.Test.YtpgofjjcmldhpaaGreatDoorReg
namespace Go.Proofs.YtpgofjjcmldhpaaGreatDoor.coverLacks
open Go.RowKit
set_option linter.unusedVariables false
set_option linter.unusedSimpArgs false

set_option maxRecDepth 100000 in
set_option maxHeartbeats 4000000 in
/-- Two slices that read alike are equal. -/
theorem eqShort_any (l : List Trio) (a a2 : Option Addr) (cap cap2 : Nat) (w : World) (h : SA w a l) (h2 : SA w a2 l) (hlen : l.length ≤ 1000000000) :
    Calls Tryz.prog 36 #[.slice a l.length cap, .slice a2 l.length cap2] w (Draws (.bool true) w) := by
  have hq0 : ((l.length : Int) != (l.length : Int)) = false := by simp
  go_enter Tryz.func36, Tryz.ntmps36
  go_wp2_with fail
  go_loopg [13] l.length (fun gk i wr => ∃ k : Nat, i = .int .i64 k ∧ k ≤ l.length ∧ Hid (gk = l.length - k) ∧ ∃ n, wr = w.drewN n)
  case atStart => exact ⟨0, rfl, by omega, rfl, 0, rfl⟩
  case round =>
    obtain ⟨k, rfl, hk, hgk, n, rfl⟩ := hrel
    by_cases hlt : k < l.length
    · obtain ⟨b, off, ha, c0, c1, c2⟩ := h.trio hlt
      obtain ⟨b', off', ha', d0, d1, d2⟩ := h2.trio hlt
      rw [ha, ha']
      generalize l[k] = x at *
      obtain ⟨x1, x2, x3⟩ := x
      simp only at *
      have hk1 : (0 : Int) ≤ (k : Int) := by omega
      have hk2 : (k : Int) < (l.length : Int) := by omega
      go_wp2_with fail
      go_quiet (fail)
      go_wp2_with fail
      rw [← ha, ← ha']
      go_roundg (l.length - (k + 1))
      case measure => have := hgk.out; omega
      case rel => exact ⟨k + 1, by go_num, by omega, rfl, _, rfl⟩
    · go_wp2_with fail
      go_ret
      exact ⟨rfl, _, rfl⟩
set_option maxRecDepth 100000 in
set_option maxHeartbeats 4000000 in
/-- Two slices that read alike are equal. -/
theorem eqOdd_any (l : List Trio) (a a2 : Option Addr) (cap cap2 : Nat) (w : World) (h : SA w a l) (h2 : SA w a2 l) (hlen : l.length ≤ 1000000000) :
    Calls Tryz.prog 38 #[.slice a l.length cap, .slice a2 l.length cap2] w (Draws (.bool true) w) := by
  have hq0 : ((l.length : Int) != (l.length : Int)) = false := by simp
  go_enter Tryz.func38, Tryz.ntmps38
  go_wp2_with fail
  go_loopg [13] l.length (fun gk i wr => ∃ k : Nat, i = .int .i64 k ∧ k ≤ l.length ∧ Hid (gk = l.length - k) ∧ ∃ n, wr = w.drewN n)
  case atStart => exact ⟨0, rfl, by omega, rfl, 0, rfl⟩
  case round =>
    obtain ⟨k, rfl, hk, hgk, n, rfl⟩ := hrel
    by_cases hlt : k < l.length
    · obtain ⟨b, off, ha, c0, c1, c2⟩ := h.trio hlt
      obtain ⟨b', off', ha', d0, d1, d2⟩ := h2.trio hlt
      rw [ha, ha']
      generalize l[k] = x at *
      obtain ⟨x1, x2, x3⟩ := x
      simp only at *
      have hk1 : (0 : Int) ≤ (k : Int) := by omega
      have hk2 : (k : Int) < (l.length : Int) := by omega
      go_wp2_with fail
      go_quiet (fail)
      go_wp2_with fail
      rw [← ha, ← ha']
      go_roundg (l.length - (k + 1))
      case measure => have := hgk.out; omega
      case rel => exact ⟨k + 1, by go_num, by omega, rfl, _, rfl⟩
    · go_wp2_with fail
      go_ret
      exact ⟨rfl, _, rfl⟩
theorem PRd.alloc {w : World} {p : Paper} (h : PRd w p) (o : Obj) : PRd (w.alloc o) p := h.below ((Below.refl _ _).alloc (Nat.le_refl _) o)
theorem uncOf_right (l : List Topic) (al : Option Addr) (capl : Nat) (ps : List Paper) (pa : Option Addr) (pc : Nat) (rs : List Reader) (ra : Option Addr) (rc : Nat) (least : Int) (w : World) (hl : SA w al l) (hP : PapersAt w pa ps) (hR : ReadersAt w ra rs) (hpl : ps.length ≤ 1000) (hsm : ∀ p ∈ ps, PSmall p) (hrl : rs.length ≤ 1000) (hrm : ∀ r ∈ rs, RSmall r) (h0 : uncX l ps rs least = 0) :
    Calls Tryz.prog 35 #[.slice al l.length capl, .slice pa ps.length pc, .slice ra rs.length rc, .int .i64 least] w (GivesOwn 9 (uncO l ps rs least) w) := by
  have hz : fieldE l ps rs [] = 0 ∧ ¬ (least < 1 ∨ 100 < least) := by
    unfold uncX at h0
    by_cases h : fieldE l ps rs [] = 0
    · rw [if_neg (by simpa using h)] at h0
      refine ⟨h, fun h2 => ?_⟩
      rw [if_pos h2] at h0
      exact absurd h0 (by decide)
    · rw [if_pos h] at h0; exact absurd h0 h
  have ho : uncO l ps rs least = uncL l rs least (keysS (allT ps)) := by unfold uncO; rw [if_pos h0]
  obtain ⟨z1, z2, z3, z4, z5, z6⟩ := field_right hz.1
  rw [ho]
  exact uncoveredOf_any l al capl ps pa pc rs ra rc least w hl hP hR (forest_len z1) hpl hsm hrl (fun r hr => ⟨hrm r hr, (skills_fit z1 (readers_right z4 r hr)).ok⟩) (by omega) (by omega)
theorem lackOf_right (l : List Topic) (ps : List Paper) (pa : Option Addr) (pc : Nat) (rs : List Reader) (ra : Option Addr) (rc : Nat) (each : Int) (w : World) (hP : PapersAt w pa ps) (hR : ReadersAt w ra rs) (hpl : ps.length ≤ 1000) (hsm : ∀ p ∈ ps, PSmall p) (hrl : rs.length ≤ 1000) (hrm : ∀ r ∈ rs, RSmall r) (h0 : lackX l ps rs each = 0) :
    Calls Tryz.prog 37 #[.slice pa ps.length pc, .slice ra rs.length rc, .int .i64 each] w (GivesOwn 72 (lackO l ps rs each) w) := by
  have hz : fieldE l ps rs [] = 0 ∧ ¬ (each < 1 ∨ 20 < each) := by
    unfold lackX at h0
    by_cases h : fieldE l ps rs [] = 0
    · rw [if_neg (by simpa using h)] at h0
      refine ⟨h, fun h2 => ?_⟩
      rw [if_pos h2] at h0
      exact absurd h0 (by decide)
    · rw [if_pos h] at h0; exact absurd h0 h
  have ho : lackO l ps rs each = lackL ps rs each (keysS (allT ps)) := by unfold lackO; rw [if_pos h0]
  rw [ho]
  exact lackOf_any ps pa pc rs ra rc each w hP hR hpl hsm hrl hrm (by omega) (by omega)
theorem oddOf_right (l : List Topic) (al : Option Addr) (capl : Nat) (ps : List Paper) (pa : Option Addr) (pc : Nat) (rs : List Reader) (ra : Option Addr) (rc : Nat) (bs : List Mark) (ba : Option Addr) (bc : Nat) (percent : Int) (w : World) (hl : SA w al l) (hP : PapersAt w pa ps) (hR : ReadersAt w ra rs) (hB : SA w ba bs) (hpl : ps.length ≤ 1000) (hrl : rs.length ≤ 1000) (hrm : ∀ r ∈ rs, RSmall r) (hbl : bs.length ≤ 1000000) (h0 : oddX l ps rs bs percent = 0) :
    Calls Tryz.prog 39 #[.slice al l.length capl, .slice pa ps.length pc, .slice ra rs.length rc, .slice ba bs.length bc, .int .i64 percent] w (GivesOwn 76 (oddO l ps rs bs percent) w) := by
  have hz : fieldE l ps rs bs = 0 ∧ ¬ (percent < 1 ∨ 100 < percent) := by
    unfold oddX at h0
    by_cases h : fieldE l ps rs bs = 0
    · rw [if_neg (by simpa using h)] at h0
      refine ⟨h, fun h2 => ?_⟩
      rw [if_pos h2] at h0
      exact absurd h0 (by decide)
    · rw [if_pos h] at h0; exact absurd h0 h
  have ho : oddO l ps rs bs percent = oddL l bs ps percent rs := by unfold oddO; rw [if_pos h0]
  rw [ho]
  exact oddOf_any l al capl ps pa pc rs ra rc bs ba bc percent w hl hP hR hB hpl hrl hrm hbl hz.1 (by omega) (by omega)
/-- What a law says of an error and a bound. -/
def withE (f n most : Int) : Int := if f ≠ 0 then f else if n < 1 ∨ most < n then 1 else 0
set_option maxHeartbeats 1000000 in
theorem within_any (f n most : Int) (w : World) : Calls Tryz.prog 34 #[.int .i64 f, .int .i64 n, .int .i64 most] w (Gives (.int .i64 (withE f n most)) w) := by
  have HV : Hid (withE f n most = if f ≠ 0 then f else if n < 1 ∨ most < n then 1 else 0) := rfl
  generalize withE f n most = v at *
  by_cases hf : f = 0
  · subst hf
    rw [if_neg (by decide)] at HV
    by_cases h1 : n < 1
    · rw [if_pos (.inl h1)] at HV
      go_enter Tryz.func34, Tryz.ntmps34
      go_wp2_with fail
      go_ret
      exact ⟨by rw [HV.out] <;> rfl, by (repeat' (first | exact Below.refl _ _ | assumption | refine Below.setCell ?_ ?_ _ | refine below_drewN ?_ _ | refine Below.drew ?_ | refine Below.alloc ?_ ?_ _ | (with_reducible refine Below.trans ?_ (Below.mono hb ?_)) | (with_reducible refine Below.trans ?_ (Below.mono hb0 ?_)) | (with_reducible refine Below.trans ?_ (Below.mono hb1 ?_)) | (with_reducible refine Below.trans ?_ (Below.mono hb2 ?_)) | (with_reducible refine Below.trans ?_ (Below.mono hb3 ?_)) | (with_reducible refine Below.trans ?_ (Below.mono hb4 ?_)) | (with_reducible refine Below.trans ?_ (Below.mono hb5 ?_)) | (with_reducible refine Below.trans ?_ (Below.mono hb6 ?_)) | (with_reducible refine Below.trans ?_ (Below.mono hb7 ?_)) | (with_reducible refine Below.trans ?_ (Below.mono hb8 ?_)) | (with_reducible refine Below.trans ?_ (Below.mono hb9 ?_)) | (with_reducible refine Below.trans ?_ (Below.mono hb10 ?_)) | (with_reducible refine Below.trans ?_ (Below.mono hb11 ?_)) | (with_reducible refine Below.trans ?_ (Below.mono hb12 ?_)) | (with_reducible refine Below.trans ?_ (Below.mono hb13 ?_)) | (with_reducible refine Below.trans ?_ (Below.mono hb14 ?_)) | (with_reducible refine Below.trans ?_ (Below.mono hb15 ?_)) | omega | (simp; done) | (simp; omega)))⟩
    · by_cases h2 : most < n
      · rw [if_pos (.inr h2)] at HV
        go_enter Tryz.func34, Tryz.ntmps34
        go_wp2_with fail
        go_ret
        exact ⟨by rw [HV.out] <;> rfl, by (repeat' (first | exact Below.refl _ _ | assumption | refine Below.setCell ?_ ?_ _ | refine below_drewN ?_ _ | refine Below.drew ?_ | refine Below.alloc ?_ ?_ _ | (with_reducible refine Below.trans ?_ (Below.mono hb ?_)) | (with_reducible refine Below.trans ?_ (Below.mono hb0 ?_)) | (with_reducible refine Below.trans ?_ (Below.mono hb1 ?_)) | (with_reducible refine Below.trans ?_ (Below.mono hb2 ?_)) | (with_reducible refine Below.trans ?_ (Below.mono hb3 ?_)) | (with_reducible refine Below.trans ?_ (Below.mono hb4 ?_)) | (with_reducible refine Below.trans ?_ (Below.mono hb5 ?_)) | (with_reducible refine Below.trans ?_ (Below.mono hb6 ?_)) | (with_reducible refine Below.trans ?_ (Below.mono hb7 ?_)) | (with_reducible refine Below.trans ?_ (Below.mono hb8 ?_)) | (with_reducible refine Below.trans ?_ (Below.mono hb9 ?_)) | (with_reducible refine Below.trans ?_ (Below.mono hb10 ?_)) | (with_reducible refine Below.trans ?_ (Below.mono hb11 ?_)) | (with_reducible refine Below.trans ?_ (Below.mono hb12 ?_)) | (with_reducible refine Below.trans ?_ (Below.mono hb13 ?_)) | (with_reducible refine Below.trans ?_ (Below.mono hb14 ?_)) | (with_reducible refine Below.trans ?_ (Below.mono hb15 ?_)) | omega | (simp; done) | (simp; omega)))⟩
      · rw [if_neg (by omega)] at HV
        go_enter Tryz.func34, Tryz.ntmps34
        go_wp2_with fail
        go_ret
        exact ⟨by rw [HV.out] <;> rfl, by (repeat' (first | exact Below.refl _ _ | assumption | refine Below.setCell ?_ ?_ _ | refine below_drewN ?_ _ | refine Below.drew ?_ | refine Below.alloc ?_ ?_ _ | (with_reducible refine Below.trans ?_ (Below.mono hb ?_)) | (with_reducible refine Below.trans ?_ (Below.mono hb0 ?_)) | (with_reducible refine Below.trans ?_ (Below.mono hb1 ?_)) | (with_reducible refine Below.trans ?_ (Below.mono hb2 ?_)) | (with_reducible refine Below.trans ?_ (Below.mono hb3 ?_)) | (with_reducible refine Below.trans ?_ (Below.mono hb4 ?_)) | (with_reducible refine Below.trans ?_ (Below.mono hb5 ?_)) | (with_reducible refine Below.trans ?_ (Below.mono hb6 ?_)) | (with_reducible refine Below.trans ?_ (Below.mono hb7 ?_)) | (with_reducible refine Below.trans ?_ (Below.mono hb8 ?_)) | (with_reducible refine Below.trans ?_ (Below.mono hb9 ?_)) | (with_reducible refine Below.trans ?_ (Below.mono hb10 ?_)) | (with_reducible refine Below.trans ?_ (Below.mono hb11 ?_)) | (with_reducible refine Below.trans ?_ (Below.mono hb12 ?_)) | (with_reducible refine Below.trans ?_ (Below.mono hb13 ?_)) | (with_reducible refine Below.trans ?_ (Below.mono hb14 ?_)) | (with_reducible refine Below.trans ?_ (Below.mono hb15 ?_)) | omega | (simp; done) | (simp; omega)))⟩
  · rw [if_pos hf] at HV
    go_enter Tryz.func34, Tryz.ntmps34
    go_wp2_with fail
    go_ret
    exact ⟨by rw [HV.out] <;> rfl, by (repeat' (first | exact Below.refl _ _ | assumption | refine Below.setCell ?_ ?_ _ | refine below_drewN ?_ _ | refine Below.drew ?_ | refine Below.alloc ?_ ?_ _ | (with_reducible refine Below.trans ?_ (Below.mono hb ?_)) | (with_reducible refine Below.trans ?_ (Below.mono hb0 ?_)) | (with_reducible refine Below.trans ?_ (Below.mono hb1 ?_)) | (with_reducible refine Below.trans ?_ (Below.mono hb2 ?_)) | (with_reducible refine Below.trans ?_ (Below.mono hb3 ?_)) | (with_reducible refine Below.trans ?_ (Below.mono hb4 ?_)) | (with_reducible refine Below.trans ?_ (Below.mono hb5 ?_)) | (with_reducible refine Below.trans ?_ (Below.mono hb6 ?_)) | (with_reducible refine Below.trans ?_ (Below.mono hb7 ?_)) | (with_reducible refine Below.trans ?_ (Below.mono hb8 ?_)) | (with_reducible refine Below.trans ?_ (Below.mono hb9 ?_)) | (with_reducible refine Below.trans ?_ (Below.mono hb10 ?_)) | (with_reducible refine Below.trans ?_ (Below.mono hb11 ?_)) | (with_reducible refine Below.trans ?_ (Below.mono hb12 ?_)) | (with_reducible refine Below.trans ?_ (Below.mono hb13 ?_)) | (with_reducible refine Below.trans ?_ (Below.mono hb14 ?_)) | (with_reducible refine Below.trans ?_ (Below.mono hb15 ?_)) | omega | (simp; done) | (simp; omega)))⟩
theorem oddO_len (l : List Topic) (ps : List Paper) (rs : List Reader) (bs : List Mark) (percent : Int) : (oddO l ps rs bs percent).length ≤ rs.length := by
  unfold oddO; split
  · exact oddL_len l bs ps percent rs
  · simp
theorem uncO_len (l : List Topic) (ps : List Paper) (rs : List Reader) (least : Int) (hpl : ps.length ≤ 1000) (hsm : ∀ p ∈ ps, PSmall p) : (uncO l ps rs least).length ≤ 1000000 := by
  have h2 := allT_bd hpl hsm ps.length
  rw [List.take_length] at h2
  have h1 := keysS_length (allT ps)
  unfold uncO; split
  · have := uncL_len l rs least (keysS (allT ps)); omega
  · simp
theorem lackO_len (l : List Topic) (ps : List Paper) (rs : List Reader) (each : Int) (hpl : ps.length ≤ 1000) (hsm : ∀ p ∈ ps, PSmall p) : (lackO l ps rs each).length ≤ 1000000 := by
  have h2 := allT_bd hpl hsm ps.length
  rw [List.take_length] at h2
  have h1 := keysS_length (allT ps)
  unfold lackO; split
  · have := lackL_len ps rs each (keysS (allT ps)); omega
  · simp



set_option maxRecDepth 100000 in
set_option maxHeartbeats 16000000 in
theorem walk (a0 : Option Addr) (len0 cap0 : Nat) (z0 : List Int) (w : World) (w0 : IsRow .i64 w a0 len0 cap0 z0) (hE : Env w) :
    Calls Tryz.prog 4 #[.slice a0 len0 cap0] w fun e w' => e = .returned (.bool true) ∧ Below w.heap.size w w' := by
  have hs := strm_new w0
  have hES := hE.envS
  go_enter Tryz.func4, Tryz.ntmps4
  go_wp2_with fail
  refine (forest_any w.heap.size 0 _ hs (by omega)).mono ?_
  rintro e w1 ⟨a, cap, l, rfl, hl12, hcap, hsm, hsa, hp, h1, s1⟩
  have hpS : ∀ z : Addr, a = some z → z.block ≠ w.heap.size := fun z hz => by
    rcases hp with hp | ⟨b, off, hp, hS⟩ <;> rw [hp] at hz <;> cases hz
    exact hS
  have hz1 := h1.size
  simp at hz1
  go_wp2_with fail
  refine (papers_any w.heap.size (0 + 20) 4 _ s1 (by omega) (by omega)).mono ?_
  rintro e w2 ⟨v2, ps, rfl, hn4, hsz, hown2, hrd, h2, s2⟩
  have hz2 := h2.size
  go_wp2_with fail
  refine (readers_any w.heap.size _ 4 _ s2 (by omega) (by omega)).mono ?_
  rintro e w3 ⟨v3, rs, rfl, hr4, hrz, hown3, hrr, h3, s3⟩
  have hz3 := h3.size
  go_wp2_with fail
  refine (bids_any w.heap.size _ _ s3 (by omega)).mono ?_
  rintro e w4 ⟨v4, b1, rfl, hb13, hbz, hown4, h4, s4⟩
  have hz4 := h4.size
  go_wp2_with fail
  refine (flip_any w.heap.size _ 3 _ s4 (by omega) (by omega) (by omega)).mono ?_
  rintro e w5 ⟨fl, rfl, h5, s5⟩
  have hz5 := h5.size
  have hst5 : Stp w.heap.size w w5 := (((((Stp.refl w.heap.size w).alloc (.cells #[.slice a0 len0 cap0, .int .i64 0] 25)).trans h1).trans h2).trans h3 |>.trans h4).trans h5
  have hl5 : SA w5 a l := (((hsa.stp h2 hpS).stp h3 hpS).stp h4 hpS).stp h5 hpS
  obtain ⟨a2, cap2, rfl, hp5, hpl5, _⟩ := ((hown2.stp h3 (by omega)).stp h4 (by omega)).stp h5 (by omega) |>.sa
  obtain ⟨a3, cap3, rfl, hr5, hrl5, _⟩ := ((hown3.stp h4 (by omega)).stp h5 (by omega)).sa
  obtain ⟨a4, cap4, rfl, hb5, hbl5, _⟩ := (hown4.stp h5 (by omega)).sa
  have hP5 : PapersAt w5 a2 ps := ⟨hp5, fun p hp => by
    have g1 := (hrd p hp).1
    have g2 := (hsz p hp).2
    exact ((g1.stp h3 g2).stp h4 g2).stp h5 g2⟩
  have hR5 : ReadersAt w5 a3 rs := ⟨hr5, fun r hr => ((hrr r hr).stp h4 (hrz r hr).2).stp h5 (hrz r hr).2⟩
  have hnP : Hid (∀ p ∈ ps, NoS w.heap.size p) := fun p hp => (hsz p hp).2
  have hnR : Hid (∀ r ∈ rs, NoR w.heap.size r) := fun r hr => (hrz r hr).2
  have hn2 : Hid (∀ x : Addr, a2 = some x → x.block ≠ w.heap.size) := fun x hx => by have := hpl5 x hx; omega
  have hn3 : Hid (∀ x : Addr, a3 = some x → x.block ≠ w.heap.size) := fun x hx => by have := hrl5 x hx; omega
  have hn4' : ∀ x : Addr, a4 = some x → x.block ≠ w.heap.size := fun x hx => by have := hbl5 x hx; omega
  have Hps : Hid (∀ p ∈ ps, PSmall p) := fun p hp => (hsz p hp).1.small (by omega)
  have Hrs : Hid (∀ r ∈ rs, RSmall r) := fun r hr => (hrz r hr).1.small
  have Hsm := Lib.hid hsm
  have hid5 : ∀ p ∈ ps, p.id.size ≤ 1000 := fun p hp => (Hps.out p hp).1
  have hbw5 : Below w.heap.size w w5 := by have := hst5.below; rwa [Nat.min_self] at this
  have hbz' : Hid (∀ x ∈ b1, SmallB x) := hbz
  clear h1 h2 h3 h4 h5 s1 s2 s3 s4 hs w0 hsa hp hsm hown2 hown3 hown4 hrd hsz hrz hrr hp5 hr5 hpl5 hrl5 hbl5 hbz
  go_upto_if 33 with (fail)
  go_cut [7] (fun v wx => ∃ (bs : List Mark) (ba : Option Addr) (bc : Nat), v = .slice ba bs.length bc ∧ bs.length ≤ 400 ∧ Hid (∀ x ∈ bs, SmallB x) ∧ ∃ W', W' = wx ∧ SA W' ba bs ∧ Hid (∀ x : Addr, ba = some x → x.block ≠ w.heap.size) ∧ Stp w.heap.size w5 W' ∧ Strm w.heap.size 2000 W')
  case first =>
    cases fl
    · go_wp2_with fail
      refine (bidsFor_any w.heap.size _ ps a2 cap2 rs a3 cap3 _ s5 (by omega) hP5.1 hn2.out hR5.1 hn3.out (by omega) (by omega) hid5 (fun r hr => (Hrs.out r hr).1)).mono ?_
      rintro e w6 ⟨v', b', rfl, hlen', hsm', hown', h6, s6⟩
      obtain ⟨a', cap', rfl, hsa', hbl', _⟩ := hown'.sa
      have Hsm' := Lib.hid hsm'
      clear hsm'
      go_wp2_with fail
      go_meet
      exact ⟨b', a', cap', rfl, by omega, Hsm', _, rfl, hsa', fun x hx => by have := hbl' x hx; omega, h6, s6.mono (by omega)⟩
    · go_wp2_with fail
      go_meet
      exact ⟨b1, a4, cap4, rfl, by omega, hbz', _, rfl, hb5, hn4', Stp.refl _ _, s5.mono (by omega)⟩
  case rest =>
    clear hb5 hn4' hbz' s5 hid5 hb13
    obtain ⟨bs, ba, bc, rfl, hbl, Hbs, W6, rfl, hB6, hnB, hst6, s6⟩ := hcut
    have hz6 := hst6.size
    have hl6 := hl5.stp hst6 hpS
    have hP6 : PapersAt W6 a2 ps := ⟨hP5.1.stp hst6 hn2.out, fun p hp => (hP5.2 p hp).stp hst6 (hnP.out p hp)⟩
    have hR6 : ReadersAt W6 a3 rs := ⟨hR5.1.stp hst6 hn3.out, fun r hr => (hR5.2 r hr).stp hst6 (hnR.out r hr)⟩
    have hst06 := hst5.trans hst6
    clear hl5 hP5 hR5 hst6 hst5
    go_wp2_with fail
    refine (pick_box w.heap.size 2000 _ 3 5 [1, 50, 100, 0, 101] _ (s6.alloc _) (by omega) (Box.new _ _ _) (by omega) (by decide) (by decide)).mono ?_
    rintro e w7 ⟨least, hn7, rfl, h7, s7⟩
    have hz7 := h7.size
    simp at hz7
    go_wp2_with fail
    refine (pick_box w.heap.size _ _ 3 5 [1, 2, 20, 0, 21] _ (s7.alloc _) (by omega) (Box.new _ _ _) (by omega) (by decide) (by decide)).mono ?_
    rintro e w8 ⟨each, hn8, rfl, h8, s8⟩
    have hz8 := h8.size
    simp at hz8
    go_wp2_with fail
    refine (pick_box w.heap.size _ _ 3 5 [1, 50, 100, 0, 101] _ (s8.alloc _) (by omega) (Box.new _ _ _) (by omega) (by decide) (by decide)).mono ?_
    rintro e w9 ⟨percent, hn9, rfl, h9, s9⟩
    have hz9 := h9.size
    simp at hz9
    have hk9 := ((((Stp.refl w.heap.size W6).alloc (.cells #[.int .i64 1, .int .i64 50, .int .i64 100, .int .i64 0, .int .i64 101] 3)).trans h7).alloc (.cells #[.int .i64 1, .int .i64 2, .int .i64 20, .int .i64 0, .int .i64 21] 3)).trans h8
    have hk9 := (hk9.alloc (.cells #[.int .i64 1, .int .i64 50, .int .i64 100, .int .i64 0, .int .i64 101] 3)).trans h9
    have hst9 := hst06.trans hk9
    have hl9 := hl6.stp hk9 hpS
    have hB9 := hB6.stp hk9 hnB.out
    have hP9 : PapersAt w9 a2 ps := ⟨hP6.1.stp hk9 hn2.out, fun p hp => (hP6.2 p hp).stp hk9 (hnP.out p hp)⟩
    have hR9 : ReadersAt w9 a3 rs := ⟨hR6.1.stp hk9 hn3.out, fun r hr => (hR6.2 r hr).stp hk9 (hnR.out r hr)⟩
    have hE9 : Env w9 := hE.stp hst9 hES
    have hb9 : Below w.heap.size w w9 := by have := hst9.below; rwa [Nat.min_self] at this
    clear hl6 hB6 hP6 hR6 hst06 hk9 h7 h8 h9 s6 s7 s8 s9 hst9 hn7 hn8 hn9 hz1 hz2 hz3 hz4 hz5 hz6 hz7 hz8 hz9
    have HF := Lib.hid (fun W (h : SA W a l) => forestFault_any l a cap W h (by omega) Hsm.out)
    have HBA := Lib.hid (fun W (h0 : Env W) (h1 : SA W a l) (h2 : PapersAt W a2 ps) (h3 : ReadersAt W a3 rs) (h4 : SA W ba bs) => bidsAll_any l a cap ps a2 cap2 rs a3 cap3 bs ba bc W h0 h1 h2 h3 h4 (by omega) (by omega) Hps.out (by omega) Hrs.out (by omega) (fun x hx => Hbs.out x hx))
    have HBN : Hid (∀ W, Env W → SA W a l → PapersAt W a2 ps → ReadersAt W a3 rs → Calls Tryz.prog 20 #[.slice a l.length cap, .slice a2 ps.length cap2, .slice a3 rs.length cap3, .slice none 0 0] W (Gives (.int .i64 (fieldX l ps rs [])) W)) := fun W h0 h1 h2 h3 => bidsAll_any l a cap ps a2 cap2 rs a3 cap3 [] none 0 W h0 h1 h2 h3 (.inl rfl) (by omega) (by omega) Hps.out (by omega) Hrs.out (by simp) (fun x hx => by cases hx)
    have HUn := Lib.hid (uncovered_any l a cap ps a2 cap2 rs a3 cap3 least w9 hE9 hl9 hP9 hR9 (by omega) Hsm.out (by omega) Hps.out (by omega) Hrs.out)
    have HLa := Lib.hid (fun W (h : Below w9.heap.size w9 W) => lack_any l a cap ps a2 cap2 rs a3 cap3 each W (hE9.below h) (hl9.below h) (hP9.below h) (hR9.below h) (by omega) Hsm.out (by omega) Hps.out (by omega) Hrs.out)
    have HOa := Lib.hid (fun W (h : Below w9.heap.size w9 W) => odd_any l a cap ps a2 cap2 rs a3 cap3 bs ba bc percent W (hE9.below h) (hl9.below h) (hP9.below h) (hR9.below h) (hB9.below h) (by omega) Hsm.out (by omega) Hps.out (by omega) Hrs.out (by omega) (fun x hx => Hbs.out x hx))
    have HUO := Lib.hid (fun (h0 : uncX l ps rs least = 0) W (h : Below w9.heap.size w9 W) => uncOf_right l a cap ps a2 cap2 rs a3 cap3 least W (hl9.below h) (hP9.below h) (hR9.below h) (by omega) Hps.out (by omega) Hrs.out h0)
    have HLO := Lib.hid (fun (h0 : lackX l ps rs each = 0) W (h : Below w9.heap.size w9 W) => lackOf_right l ps a2 cap2 rs a3 cap3 each W (hP9.below h) (hR9.below h) (by omega) Hps.out (by omega) Hrs.out h0)
    have HOO := Lib.hid (fun (h0 : oddX l ps rs bs percent = 0) W (h : Below w9.heap.size w9 W) => oddOf_right l a cap ps a2 cap2 rs a3 cap3 bs ba bc percent W (hl9.below h) (hP9.below h) (hR9.below h) (hB9.below h) (by omega) (by omega) Hrs.out (by omega) h0)
    have hul := uncO_len l ps rs least (by omega) Hps.out
    have hkl := lackO_len l ps rs each (by omega) Hps.out
    have hol := oddO_len l ps rs bs percent
    have HUx : Hid (uncX l ps rs least = withE (fieldE l ps rs []) least 100) := rfl
    have HKx : Hid (lackX l ps rs each = withE (fieldE l ps rs []) each 20) := rfl
    have HOx : Hid (oddX l ps rs bs percent = withE (fieldE l ps rs bs) percent 100) := rfl
    have HE1 : Hid (forestFault l ≠ 0 → fieldE l ps rs [] = forestFault l ∧ fieldE l ps rs bs = forestFault l) := fun h => ⟨by unfold fieldE; rw [if_pos h], by unfold fieldE; rw [if_pos h]⟩
    have HE2 : Hid (forestFault l = 0 → fieldE l ps rs [] = fieldX l ps rs [] ∧ fieldE l ps rs bs = fieldX l ps rs bs) := fun h => ⟨by unfold fieldE; rw [if_neg (by simpa using h)], by unfold fieldE; rw [if_neg (by simpa using h)]⟩
    generalize uncX l ps rs least = ux at *
    generalize lackX l ps rs each = kx at *
    generalize oddX l ps rs bs percent = ox at *
    generalize uncO l ps rs least = uo at *
    generalize lackO l ps rs each = ko at *
    generalize oddO l ps rs bs percent = oo at *
    generalize fieldE l ps rs [] = fe at *
    generalize fieldE l ps rs bs = fb at *
    generalize fieldX l ps rs [] = ge at *
    generalize fieldX l ps rs bs = gb at *
    generalize forestFault l = ff at *
    go_wp2_with fail
    refine HUn.out.mono ?_
    rintro e w10 ⟨hb10, ua, uc, rfl, huo⟩
    go_wp2_with fail
    refine (HLa.out _ hb10).mono ?_
    rintro e w11 ⟨hb11, ka, kc, rfl, hko⟩
    have hb911 := below_next hb10 hb11
    go_wp2_with fail
    refine (HOa.out _ hb911).mono ?_
    rintro e w12 ⟨hb12, oa, oc, rfl, hoo⟩
    have hb912 := below_next hb911 hb12
    replace huo := (huo.below hb11).below hb12
    replace hko := hko.below hb12
    clear HUn HLa HOa hb10 hb11 hb12 hb911
    go_wp2_with fail
    refine (HF.out _ (hl9.below hb912)).mono ?_
    rintro e w13 ⟨rfl, hb13⟩
    have hb913 := below_next hb912 hb13
    replace huo := huo.below hb13
    replace hko := hko.below hb13
    replace hoo := hoo.below hb13
    clear HF hb912 hb13
    by_cases hff : ff = 0
    · obtain ⟨e1, e2⟩ := HE2.out hff
      rw [hff]
      rw [e1] at HUx HKx
      rw [e2] at HOx
      clear HE1 HE2 hff e1 e2
      go_wp2_with fail
      refine (HBN.out _ (hE9.below hb913) (hl9.below hb913) (hP9.below hb913) (hR9.below hb913)).mono ?_
      rintro e w14 ⟨rfl, hb14⟩
      have hb914 := below_next hb913 hb14
      go_wp2_with fail
      refine (HBA.out _ (hE9.below hb914) (hl9.below hb914) (hP9.below hb914) (hR9.below hb914) (hB9.below hb914)).mono ?_
      rintro e w15 ⟨rfl, hb15⟩
      have hb915 := below_next hb914 hb15
      have hb1315 := below_next hb14 hb15
      replace huo := huo.below hb1315
      replace hko := hko.below hb1315
      replace hoo := hoo.below hb1315
      clear HBN HBA hb914 hb14 hb15 hb1315
      go_wp2_with fail
      refine (within_any ge least 100 _).mono ?_
      rintro e wa ⟨rfl, hba⟩
      rw [← HUx.out]
      have hqa : (ux != ux) = false := by simp
      have hb9a := below_next hb915 hba
      go_wp2_with fail
      refine (within_any ge each 20 _).mono ?_
      rintro e wb ⟨rfl, hbb⟩
      rw [← HKx.out]
      have hqb : (kx != kx) = false := by simp
      have hb9b := below_next hb9a hbb
      go_wp2_with fail
      refine (within_any gb percent 100 _).mono ?_
      rintro e wc ⟨rfl, hbc⟩
      rw [← HOx.out]
      have hqc : (ox != ox) = false := by simp
      have hb9c := below_next hb9b hbc
      go_wp2_with fail
      refine (topics_any _).mono ?_
      rintro e wt ⟨rfl, hbd⟩
      have hb9t := below_next hb9c hbd
      have hbt : Below w.heap.size w wt := below_next hb9 hb9t
      have hxt := below_next hba (below_next hbb (below_next hbc hbd))
      replace huo := huo.below hxt
      replace hko := hko.below hxt
      replace hoo := hoo.below hxt
      have HOd := Lib.hid (fun h0 W (h : Below wt.heap.size wt W) => HOO.out h0 W (below_next hb9t h))
      have HLk := Lib.hid (fun h0 W (h : Below wt.heap.size wt W) => HLO.out h0 W (below_next hb9t h))
      have HUc := Lib.hid (fun h0 W (h : Below wt.heap.size wt W) => HUO.out h0 W (below_next hb9t h))
      have hbr := Below.refl wt.heap.size wt
      clear hba hbb hbc hbd hb9a hb9b hb9c hqa hqb hqc hxt hb9t HOO HLO HUO hl9 hB9 hP9 hR9 hE9 hb9 HUx HKx HOx hb915
      by_cases hu0 : ux = 0
      · have HU := Lib.hid (HUc.out hu0 _ hbr)
        rw [hu0]
        clear hu0
        go_wp2_with fail
        refine HU.out.mono ?_
        rintro e wu1 ⟨vu, rfl, hownu, hbu1⟩
        obtain ⟨uxa, uxc, rfl, hux, -, -⟩ := hownu.sa
        go_wp2_with fail
        refine (equal_any uo uo ua uxa uc uxc _ (huo.below hbu1) hux (by omega) (by omega)).mono ?_
        rintro e wu2 ⟨rfl, nu2, rfl⟩
        have hbu3 := below_drewN hbu1 nu2
        have hqu : decide (uo = uo) = true := by simp
        by_cases hk0 : kx = 0
        · have HK := Lib.hid (HLk.out hk0 _ (hbu3))
          rw [hk0]
          clear hk0
          go_wp2_with fail
          refine HK.out.mono ?_
          rintro e wk1 ⟨vk, rfl, hownk, hbk1⟩
          obtain ⟨kxa, kxc, rfl, hkx, -, -⟩ := hownk.sa
          have hbk2 := below_next (hbu3) hbk1
          go_wp2_with fail
          refine (eqShort_any ko ka kxa kc kxc _ (hko.below hbk2) hkx (by omega)).mono ?_
          rintro e wk2 ⟨rfl, nk2, rfl⟩
          have hbk3 := below_drewN hbk2 nk2
          by_cases ho0 : ox = 0
          · have HO := Lib.hid (HOd.out ho0 _ (hbk3))
            rw [ho0]
            clear ho0
            go_wp2_with fail
            refine HO.out.mono ?_
            rintro e wo1 ⟨vo, rfl, howno, hbo1⟩
            obtain ⟨oxa, oxc, rfl, hox, -, -⟩ := howno.sa
            have hbo2 := below_next (hbk3) hbo1
            go_wp2_with fail
            refine (eqOdd_any oo oa oxa oc oxc _ (hoo.below hbo2) hox (by omega)).mono ?_
            rintro e wo2 ⟨rfl, no2, rfl⟩
            go_wp2_with fail
            go_ret
            exact ⟨rfl, below_next hbt (below_drewN hbo2 _)⟩
          · have hqo : (ox != 0) = true := by simpa using ho0
            clear ho0
            go_wp2_with fail
            go_ret
            exact ⟨rfl, below_next hbt (hbk3)⟩
        · have hqk : (kx != 0) = true := by simpa using hk0
          clear hk0
          by_cases ho0 : ox = 0
          · have HO := Lib.hid (HOd.out ho0 _ (hbu3))
            rw [ho0]
            clear ho0
            go_wp2_with fail
            refine HO.out.mono ?_
            rintro e wo1 ⟨vo, rfl, howno, hbo1⟩
            obtain ⟨oxa, oxc, rfl, hox, -, -⟩ := howno.sa
            have hbo2 := below_next (hbu3) hbo1
            go_wp2_with fail
            refine (eqOdd_any oo oa oxa oc oxc _ (hoo.below hbo2) hox (by omega)).mono ?_
            rintro e wo2 ⟨rfl, no2, rfl⟩
            go_wp2_with fail
            go_ret
            exact ⟨rfl, below_next hbt (below_drewN hbo2 _)⟩
          · have hqo : (ox != 0) = true := by simpa using ho0
            clear ho0
            go_wp2_with fail
            go_ret
            exact ⟨rfl, below_next hbt (hbu3)⟩
      · have hqu : (ux != 0) = true := by simpa using hu0
        clear hu0
        by_cases hk0 : kx = 0
        · have HK := Lib.hid (HLk.out hk0 _ (hbr))
          rw [hk0]
          clear hk0
          go_wp2_with fail
          refine HK.out.mono ?_
          rintro e wk1 ⟨vk, rfl, hownk, hbk1⟩
          obtain ⟨kxa, kxc, rfl, hkx, -, -⟩ := hownk.sa
          have hbk2 := below_next (hbr) hbk1
          go_wp2_with fail
          refine (eqShort_any ko ka kxa kc kxc _ (hko.below hbk2) hkx (by omega)).mono ?_
          rintro e wk2 ⟨rfl, nk2, rfl⟩
          have hbk3 := below_drewN hbk2 nk2
          by_cases ho0 : ox = 0
          · have HO := Lib.hid (HOd.out ho0 _ (hbk3))
            rw [ho0]
            clear ho0
            go_wp2_with fail
            refine HO.out.mono ?_
            rintro e wo1 ⟨vo, rfl, howno, hbo1⟩
            obtain ⟨oxa, oxc, rfl, hox, -, -⟩ := howno.sa
            have hbo2 := below_next (hbk3) hbo1
            go_wp2_with fail
            refine (eqOdd_any oo oa oxa oc oxc _ (hoo.below hbo2) hox (by omega)).mono ?_
            rintro e wo2 ⟨rfl, no2, rfl⟩
            go_wp2_with fail
            go_ret
            exact ⟨rfl, below_next hbt (below_drewN hbo2 _)⟩
          · have hqo : (ox != 0) = true := by simpa using ho0
            clear ho0
            go_wp2_with fail
            go_ret
            exact ⟨rfl, below_next hbt (hbk3)⟩
        · have hqk : (kx != 0) = true := by simpa using hk0
          clear hk0
          by_cases ho0 : ox = 0
          · have HO := Lib.hid (HOd.out ho0 _ (hbr))
            rw [ho0]
            clear ho0
            go_wp2_with fail
            refine HO.out.mono ?_
            rintro e wo1 ⟨vo, rfl, howno, hbo1⟩
            obtain ⟨oxa, oxc, rfl, hox, -, -⟩ := howno.sa
            have hbo2 := below_next (hbr) hbo1
            go_wp2_with fail
            refine (eqOdd_any oo oa oxa oc oxc _ (hoo.below hbo2) hox (by omega)).mono ?_
            rintro e wo2 ⟨rfl, no2, rfl⟩
            go_wp2_with fail
            go_ret
            exact ⟨rfl, below_next hbt (below_drewN hbo2 _)⟩
          · have hqo : (ox != 0) = true := by simpa using ho0
            clear ho0
            go_wp2_with fail
            go_ret
            exact ⟨rfl, below_next hbt (hbr)⟩
    · obtain ⟨e1, e2⟩ := HE1.out hff
      rw [e1] at HUx HKx
      rw [e2] at HOx
      clear HE1 HE2 e1 e2 HBN HBA
      have hqf : (ff == 0) = false := by simpa using hff
      clear hff
      go_wp2_with fail
      refine (within_any ff least 100 _).mono ?_
      rintro e wa ⟨rfl, hba⟩
      rw [← HUx.out]
      have hqa : (ux != ux) = false := by simp
      have hb9a := below_next hb913 hba
      go_wp2_with fail
      refine (within_any ff each 20 _).mono ?_
      rintro e wb ⟨rfl, hbb⟩
      rw [← HKx.out]
      have hqb : (kx != kx) = false := by simp
      have hb9b := below_next hb9a hbb
      go_wp2_with fail
      refine (within_any ff percent 100 _).mono ?_
      rintro e wc ⟨rfl, hbc⟩
      rw [← HOx.out]
      have hqc : (ox != ox) = false := by simp
      have hb9c := below_next hb9b hbc
      go_wp2_with fail
      refine (topics_any _).mono ?_
      rintro e wt ⟨rfl, hbd⟩
      have hb9t := below_next hb9c hbd
      have hbt : Below w.heap.size w wt := below_next hb9 hb9t
      have hxt := below_next hba (below_next hbb (below_next hbc hbd))
      replace huo := huo.below hxt
      replace hko := hko.below hxt
      replace hoo := hoo.below hxt
      have HOd := Lib.hid (fun h0 W (h : Below wt.heap.size wt W) => HOO.out h0 W (below_next hb9t h))
      have HLk := Lib.hid (fun h0 W (h : Below wt.heap.size wt W) => HLO.out h0 W (below_next hb9t h))
      have HUc := Lib.hid (fun h0 W (h : Below wt.heap.size wt W) => HUO.out h0 W (below_next hb9t h))
      have hbr := Below.refl wt.heap.size wt
      clear hba hbb hbc hbd hb9a hb9b hb9c hqa hqb hqc hxt hb9t HOO HLO HUO hl9 hB9 hP9 hR9 hE9 hb9 HUx HKx HOx hb913
      by_cases hu0 : ux = 0
      · have HU := Lib.hid (HUc.out hu0 _ hbr)
        rw [hu0]
        clear hu0
        go_wp2_with fail
        refine HU.out.mono ?_
        rintro e wu1 ⟨vu, rfl, hownu, hbu1⟩
        obtain ⟨uxa, uxc, rfl, hux, -, -⟩ := hownu.sa
        go_wp2_with fail
        refine (equal_any uo uo ua uxa uc uxc _ (huo.below hbu1) hux (by omega) (by omega)).mono ?_
        rintro e wu2 ⟨rfl, nu2, rfl⟩
        have hbu3 := below_drewN hbu1 nu2
        have hqu : decide (uo = uo) = true := by simp
        by_cases hk0 : kx = 0
        · have HK := Lib.hid (HLk.out hk0 _ (hbu3))
          rw [hk0]
          clear hk0
          go_wp2_with fail
          refine HK.out.mono ?_
          rintro e wk1 ⟨vk, rfl, hownk, hbk1⟩
          obtain ⟨kxa, kxc, rfl, hkx, -, -⟩ := hownk.sa
          have hbk2 := below_next (hbu3) hbk1
          go_wp2_with fail
          refine (eqShort_any ko ka kxa kc kxc _ (hko.below hbk2) hkx (by omega)).mono ?_
          rintro e wk2 ⟨rfl, nk2, rfl⟩
          have hbk3 := below_drewN hbk2 nk2
          by_cases ho0 : ox = 0
          · have HO := Lib.hid (HOd.out ho0 _ (hbk3))
            rw [ho0]
            clear ho0
            go_wp2_with fail
            refine HO.out.mono ?_
            rintro e wo1 ⟨vo, rfl, howno, hbo1⟩
            obtain ⟨oxa, oxc, rfl, hox, -, -⟩ := howno.sa
            have hbo2 := below_next (hbk3) hbo1
            go_wp2_with fail
            refine (eqOdd_any oo oa oxa oc oxc _ (hoo.below hbo2) hox (by omega)).mono ?_
            rintro e wo2 ⟨rfl, no2, rfl⟩
            go_wp2_with fail
            go_ret
            exact ⟨rfl, below_next hbt (below_drewN hbo2 _)⟩
          · have hqo : (ox != 0) = true := by simpa using ho0
            clear ho0
            go_wp2_with fail
            go_ret
            exact ⟨rfl, below_next hbt (hbk3)⟩
        · have hqk : (kx != 0) = true := by simpa using hk0
          clear hk0
          by_cases ho0 : ox = 0
          · have HO := Lib.hid (HOd.out ho0 _ (hbu3))
            rw [ho0]
            clear ho0
            go_wp2_with fail
            refine HO.out.mono ?_
            rintro e wo1 ⟨vo, rfl, howno, hbo1⟩
            obtain ⟨oxa, oxc, rfl, hox, -, -⟩ := howno.sa
            have hbo2 := below_next (hbu3) hbo1
            go_wp2_with fail
            refine (eqOdd_any oo oa oxa oc oxc _ (hoo.below hbo2) hox (by omega)).mono ?_
            rintro e wo2 ⟨rfl, no2, rfl⟩
            go_wp2_with fail
            go_ret
            exact ⟨rfl, below_next hbt (below_drewN hbo2 _)⟩
          · have hqo : (ox != 0) = true := by simpa using ho0
            clear ho0
            go_wp2_with fail
            go_ret
            exact ⟨rfl, below_next hbt (hbu3)⟩
      · have hqu : (ux != 0) = true := by simpa using hu0
        clear hu0
        by_cases hk0 : kx = 0
        · have HK := Lib.hid (HLk.out hk0 _ (hbr))
          rw [hk0]
          clear hk0
          go_wp2_with fail
          refine HK.out.mono ?_
          rintro e wk1 ⟨vk, rfl, hownk, hbk1⟩
          obtain ⟨kxa, kxc, rfl, hkx, -, -⟩ := hownk.sa
          have hbk2 := below_next (hbr) hbk1
          go_wp2_with fail
          refine (eqShort_any ko ka kxa kc kxc _ (hko.below hbk2) hkx (by omega)).mono ?_
          rintro e wk2 ⟨rfl, nk2, rfl⟩
          have hbk3 := below_drewN hbk2 nk2
          by_cases ho0 : ox = 0
          · have HO := Lib.hid (HOd.out ho0 _ (hbk3))
            rw [ho0]
            clear ho0
            go_wp2_with fail
            refine HO.out.mono ?_
            rintro e wo1 ⟨vo, rfl, howno, hbo1⟩
            obtain ⟨oxa, oxc, rfl, hox, -, -⟩ := howno.sa
            have hbo2 := below_next (hbk3) hbo1
            go_wp2_with fail
            refine (eqOdd_any oo oa oxa oc oxc _ (hoo.below hbo2) hox (by omega)).mono ?_
            rintro e wo2 ⟨rfl, no2, rfl⟩
            go_wp2_with fail
            go_ret
            exact ⟨rfl, below_next hbt (below_drewN hbo2 _)⟩
          · have hqo : (ox != 0) = true := by simpa using ho0
            clear ho0
            go_wp2_with fail
            go_ret
            exact ⟨rfl, below_next hbt (hbk3)⟩
        · have hqk : (kx != 0) = true := by simpa using hk0
          clear hk0
          by_cases ho0 : ox = 0
          · have HO := Lib.hid (HOd.out ho0 _ (hbr))
            rw [ho0]
            clear ho0
            go_wp2_with fail
            refine HO.out.mono ?_
            rintro e wo1 ⟨vo, rfl, howno, hbo1⟩
            obtain ⟨oxa, oxc, rfl, hox, -, -⟩ := howno.sa
            have hbo2 := below_next (hbr) hbo1
            go_wp2_with fail
            refine (eqOdd_any oo oa oxa oc oxc _ (hoo.below hbo2) hox (by omega)).mono ?_
            rintro e wo2 ⟨rfl, no2, rfl⟩
            go_wp2_with fail
            go_ret
            exact ⟨rfl, below_next hbt (below_drewN hbo2 _)⟩
          · have hqo : (ox != 0) = true := by simpa using ho0
            clear ho0
            go_wp2_with fail
            go_ret
            exact ⟨rfl, below_next hbt (hbr)⟩
end Go.Proofs.YtpgofjjcmldhpaaGreatDoor.coverLacks
