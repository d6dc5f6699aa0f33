/- For every list of raw numbers, MarksBalanced returns true. The walk. -/
import Derived.Test.YtibchcdcpcjgnaaDoorMakeMark2
import Derived.Test.YtibchcdcpcjgnaaDoorBal3
import Derived.Test.YtibchcdcpcjgnaaDoorBal4
import Derived.Test.YtibchcdcpcjgnaaDoorEq
namespace Go.Proofs.YtibchcdcpcjgnaaDoor.marksBalanced
open Go.RowKit
set_option linter.unusedVariables false
set_option linter.unusedSimpArgs false

set_option maxRecDepth 100000 in
set_option maxHeartbeats 8000000 in
theorem walk (a0 : Option Addr) (len0 cap0 : Nat) (z0 : List Int) (w : World) (w0 : IsRow .i64 w a0 len0 cap0 z0) :
    Calls Tryd.prog 3 #[.slice a0 len0 cap0] w fun e w' => e = .returned (.bool true) ∧ Below w.heap.size w w' := by
  have hs := strm_new w0
  go_enter Tryd.func3, Tryd.ntmps3
  go_wp2_with fail
  refine (anyMarks_any w.heap.size 0 _ hs (by omega)).mono ?_
  rintro e w1 ⟨l, v, rfl, hown, hlen, hsm, h1, s1⟩
  have hz1 := h1.size
  simp at hz1
  obtain ⟨a, cap, rfl, hsa, hbl, _⟩ := hown.sa
  have hst1 : Stp w.heap.size w w1 := ((Stp.refl _ w).alloc _).trans h1
  have hnS : ∀ x : Addr, a = some x → x.block ≠ w.heap.size := fun x hx => by have := hbl x hx; simp at this; omega
  have HnS := Lib.hid hnS
  have Hks : Hid (∀ x ∈ l, x.1.size ≤ 1000 ∧ x.2.1.size ≤ 1000) := fun x hx => ⟨(hsm x hx).1, (hsm x hx).2.1⟩
  clear w0 hs hown hnS hbl h1 hsm
  go_wp2_with fail
  refine (pick_box w.heap.size (0 + 2 + 1000) _ 3 7 [1, 2, 5, 20, 100, 0, 101] _ (s1.alloc _) (by omega) (Box.new _ _ _) (by omega) (by decide) (by decide)).mono ?_
  rintro e w2 ⟨R, hR, rfl, h2, s2⟩
  have hz2 := h2.size
  simp at hz2
  have hsa2 := (hsa.alloc _).stp h2 HnS.out
  have hst2 := (hst1.alloc _).trans h2
  have hbW : Below w.heap.size w w2 := by have := hst2.below; rw [Nat.min_self] at this; exact this
  clear hsa hst1 h2 s1 s2 hst2 hR HnS
  go_wp2_with fail
  refine (balancedP_any l a cap R _ hsa2 (by omega) Hks.out).mono ?_
  rintro e w3 ⟨hb3, v1, v2, er, rfl, hcs⟩
  have hsa3 := hsa2.below hb3
  have hbw3 := below_next hbW hb3
  have hz3 := hb3.size
  clear hsa2 hbW hb3
  go_wp2_with fail
  refine (marksFault_any l a cap _ hsa3 (by omega) Hks.out).mono ?_
  rintro e w4 ⟨rfl, hb4⟩
  have hsa4 := hsa3.below hb4
  have hbw4 := below_next hbw3 hb4
  rcases hcs with ⟨h0, rfl⟩ | ⟨h0, hR, rfl⟩ | ⟨h0, hR1, hR2, rfl, ho1, ho2⟩
  · clear hbw3 hsa3 hb4
    generalize marksFault l = pf at *
    have h0a : (pf != 0) = true := by simpa using h0
    have h0b : (pf == 0) = false := by simpa using h0
    have h0c : (pf == pf) = true := by simp
    clear h0
    go_wp2_with fail
    refine (scores_any _).mono ?_
    rintro e w5 ⟨rfl, hb5⟩
    go_wp2_with fail
    go_ret
    exact ⟨rfl, below_next hbw4 hb5⟩
  · rw [h0]
    have H0 := Lib.hid h0
    clear hbw3 hsa3 hb4 h0
    rcases hR with hR | hR
    · go_wp2_with fail
      refine (scores_any _).mono ?_
      rintro e w5 ⟨rfl, hb5⟩
      go_wp2_with fail
      go_ret
      exact ⟨rfl, below_next hbw4 hb5⟩
    · have hR' : decide (R < 1) = false := decide_eq_false (by omega)
      go_wp2_with fail
      refine (scores_any _).mono ?_
      rintro e w5 ⟨rfl, hb5⟩
      go_wp2_with fail
      go_ret
      exact ⟨rfl, below_next hbw4 hb5⟩
  · obtain ⟨n, rfl⟩ : ∃ n : Nat, R = n := ⟨R.toNat, by omega⟩
    have hok := fault_scores h0
    rw [h0]
    rw [Int.toNat_natCast] at ho1 ho2
    have HB := Lib.hid (fun W (h : SA W a l) => balancedOf_any l a cap n W h hok (by omega) (by omega))
    have hk1 := keysOf_length (fun x => x.1) l
    have hk2 := keysOf_length (fun x => x.2.1) l
    have hl1 : ((keysOf (fun x => x.1) l).map (fun k => ((k, (bal l n).1 k) : Skill))).length ≤ 1000 := by rw [List.length_map]; omega
    have hl2 : ((keysOf (fun x => x.2.1) l).map (fun k => ((k, (bal l n).2 k) : Skill))).length ≤ 1000 := by rw [List.length_map]; omega
    generalize (keysOf (fun x => x.1) l).map (fun k => ((k, (bal l n).1 k) : Skill)) = L1 at *
    generalize (keysOf (fun x => x.2.1) l).map (fun k => ((k, (bal l n).2 k) : Skill)) = L2 at *
    have ho1' := ho1.below hb4
    have ho2' := ho2.below hb4
    have H0 := Lib.hid h0
    have hd1 : decide ((n : Int) < 1) = false := decide_eq_false (by omega)
    have hd2 : decide ((100 : Int) < (n : Int)) = false := decide_eq_false (by omega)
    have hd3 : decide (n < 1) = false := decide_eq_false (by omega)
    have hd4 : decide (100 < n) = false := decide_eq_false (by omega)
    clear hbw3 hsa3 hb4 ho1 ho2 h0 hok hk1 hk2
    go_wp2_with fail
    refine (HB.out _ hsa4).mono ?_
    rintro e w5 ⟨x1, x2, rfl, ox1, ox2, hb5⟩
    have ho1 := ho1'.below hb5
    have ho2 := ho2'.below hb5
    have hbw5 := below_next hbw4 hb5
    obtain ⟨p1, c1, rfl, q1, _, _⟩ := ho1.sa
    obtain ⟨p2, c2, rfl, q2, _, _⟩ := ho2.sa
    obtain ⟨p3, c3, rfl, q3, _, _⟩ := ox1.sa
    obtain ⟨p4, c4, rfl, q4, _, _⟩ := ox2.sa
    clear ho1 ho2 ox1 ox2 hb5 hbw4 ho1' ho2' hsa4
    go_wp2_with fail
    refine (scores_any _).mono ?_
    rintro e w6 ⟨rfl, hb6⟩
    have hbw6 := below_next hbw5 hb6
    go_wp2_with fail
    refine (equalLevel_any L1 p1 p3 c1 c3 _ (q1.below hb6) (q3.below hb6) (by omega)).mono ?_
    rintro e w7 ⟨rfl, n7, rfl⟩
    go_wp2_with fail
    refine (equalLevel_any L2 p2 p4 c2 c4 _ ((q2.below hb6).drewN n7) ((q4.below hb6).drewN n7) (by omega)).mono ?_
    rintro e w8 ⟨rfl, n8, rfl⟩
    go_wp2_with fail
    go_ret
    exact ⟨rfl, below_drewN hbw6 _⟩
end Go.Proofs.YtibchcdcpcjgnaaDoor.marksBalanced
