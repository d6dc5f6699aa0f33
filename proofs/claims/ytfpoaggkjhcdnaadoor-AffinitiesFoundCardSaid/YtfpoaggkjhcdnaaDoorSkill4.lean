/- Affinities, of the program and of the reference. -/
import Derived.Test.YtfpoaggkjhcdnaaDoorSkill3
namespace Go.Proofs.YtfpoaggkjhcdnaaDoor
open Go.RowKit
set_option linter.unusedVariables false
set_option linter.unusedSimpArgs false

def knowns (l : List Topic) (s : List Skill) (ts : List ByteArray) : List Known := ts.map (bestOf l s)
def affV (l : List Topic) (s : List Skill) (ts : List ByteArray) : Value :=
  if ts.length = 0 then .agg #[.int .i64 0, .int .i64 1] else low (affOf (knowns l s ts)).1 ((affOf (knowns l s ts)).2 * ts.length)
theorem aff_snoc (l : List Topic) (s : List Skill) {ts : List ByteArray} {k : Nat} (hk : k < ts.length) : affOf (knowns l s (ts.take (k + 1))) = affStep (affOf (knowns l s (ts.take k))) (bestOf l s ts[k]) := by
  unfold affOf knowns
  rw [List.take_succ_eq_append_getElem hk, List.map_append, List.foldl_append]
  rfl
/-- What the sums stay within. -/
theorem aff_bd {l : List Topic} {s : List Skill} {ts : List ByteArray} (hlen : l.length ≤ 1000) (hs : SkillFit l s) (ht : ∀ t ∈ ts, (ab l t).length ≤ 5) (h8 : ts.length ≤ 8) :
    (0 ≤ (affOf (knowns l s ts)).1 ∧ (affOf (knowns l s ts)).1 ≤ 4036032000) ∧ (1 ≤ (affOf (knowns l s ts)).2 ∧ (affOf (knowns l s ts)).2 ≤ 252000) := by
  obtain ⟨h1, h2, h3, h4⟩ := aff_fit (bs := knowns l s ts) (fun b hb => by
    obtain ⟨t, htm, rfl⟩ := List.mem_map.1 hb
    exact best_fit t hlen hs (ht t htm))
  have h5 := Int.le_of_dvd (by decide) h3
  have hl : (knowns l s ts).length = ts.length := by simp [knowns]
  rw [hl] at h4
  have h6 := (mul_bd2 (a := 2002 * (ts.length : Int)) (b := (affOf (knowns l s ts)).2) (A := 16016) (B := 252000) (by omega) (by omega) (by omega) h5).2
  omega
theorem best_bd2 {l : List Topic} {s : List Skill} (t : ByteArray) (hlen : l.length ≤ 1000) (hs : SkillFit l s) (ht : (ab l t).length ≤ 5) :
    (0 ≤ (bestOf l s t).2.1 ∧ (bestOf l s t).2.1 ≤ 504504000) ∧ (1 ≤ (bestOf l s t).2.2 ∧ (bestOf l s t).2.2 ≤ 252000) := by
  obtain ⟨h1, h2, h3, h4⟩ := best_fit t hlen hs ht
  have h5 := Int.le_of_dvd (by decide) h3
  omega

set_option maxRecDepth 100000 in
set_option maxHeartbeats 4000000 in
theorem affinity_any (l : List Topic) (fb : Nat) (s : List Skill) (a2 : Option Addr) (cap2 : Nat) (ts : List ByteArray) (a3 : Option Addr) (cap3 : Nat) (w : World) (hF : FMap w fb l l.length) (hs : SA w a2 s) (ht : SA w a3 ts) (hlen : l.length ≤ 1000) (hsl : s.length ≤ 1000000) (htl : ts.length ≤ 8) (hok : SkillFit l s) (htk : ∀ t ∈ ts, (ab l t).length ≤ 5) :
    Calls Tryd.prog 51 #[.map (some fb), .slice a2 s.length cap2, .slice a3 ts.length cap3] w (Gives (affV l s ts) w) := by
  have hR0 := Box.new w 37 #[.int .i64 0, .int .i64 0]
  by_cases h0 : ts.length = 0
  · have hv : affV l s ts = .agg #[.int .i64 0, .int .i64 1] := by simp [affV, h0]
    rw [hv, h0]
    clear hv h0 htl
    go_enter Tryd.func51, Tryd.ntmps51
    go_wp2_with fail
    refine (zero_any _).mono ?_
    rintro e w0 ⟨rfl, hb0⟩
    have hz0 := hb0.size
    simp at hz0
    have hR := hR0.below hb0
    have hb0' : Below w.heap.size w w0 := by (repeat' (first | exact Below.refl _ _ | assumption | refine Below.setCell ?_ ?_ _ | refine below_drewN ?_ _ | refine Below.drew ?_ | refine Below.alloc ?_ ?_ _ | (with_reducible refine Below.trans ?_ (Below.mono hb ?_)) | (with_reducible refine Below.trans ?_ (Below.mono hb0 ?_)) | (with_reducible refine Below.trans ?_ (Below.mono hb1 ?_)) | (with_reducible refine Below.trans ?_ (Below.mono hb2 ?_)) | (with_reducible refine Below.trans ?_ (Below.mono hb3 ?_)) | (with_reducible refine Below.trans ?_ (Below.mono hb4 ?_)) | (with_reducible refine Below.trans ?_ (Below.mono hb5 ?_)) | (with_reducible refine Below.trans ?_ (Below.mono hb6 ?_)) | (with_reducible refine Below.trans ?_ (Below.mono hb7 ?_)) | (with_reducible refine Below.trans ?_ (Below.mono hb8 ?_)) | (with_reducible refine Below.trans ?_ (Below.mono hb9 ?_)) | (with_reducible refine Below.trans ?_ (Below.mono hb10 ?_)) | (with_reducible refine Below.trans ?_ (Below.mono hb11 ?_)) | (with_reducible refine Below.trans ?_ (Below.mono hb12 ?_)) | (with_reducible refine Below.trans ?_ (Below.mono hb13 ?_)) | (with_reducible refine Below.trans ?_ (Below.mono hb14 ?_)) | (with_reducible refine Below.trans ?_ (Below.mono hb15 ?_)) | omega | (simp; done) | (simp; omega)))
    have hR_l := hR.lt; have hR_0 := hR.cell 0; have hR_1 := hR.cell 1; simp at hR_0 hR_1
    have hR_f0 := hR.frozen 0; have hR_f1 := hR.frozen 1
    go_wp2_with fail
    refine bodyPost_ret (v := .agg #[.int .i64 0, .int .i64 1]) (by simp only [results, Tryd.results51]; go_simp) rfl ⟨rfl, ?_⟩
    (repeat' (first | exact Below.refl _ _ | assumption | refine Below.setCell ?_ ?_ _ | refine below_drewN ?_ _ | refine Below.drew ?_ | refine Below.alloc ?_ ?_ _ | (with_reducible refine Below.trans ?_ (Below.mono hb ?_)) | (with_reducible refine Below.trans ?_ (Below.mono hb0 ?_)) | (with_reducible refine Below.trans ?_ (Below.mono hb1 ?_)) | (with_reducible refine Below.trans ?_ (Below.mono hb2 ?_)) | (with_reducible refine Below.trans ?_ (Below.mono hb3 ?_)) | (with_reducible refine Below.trans ?_ (Below.mono hb4 ?_)) | (with_reducible refine Below.trans ?_ (Below.mono hb5 ?_)) | (with_reducible refine Below.trans ?_ (Below.mono hb6 ?_)) | (with_reducible refine Below.trans ?_ (Below.mono hb7 ?_)) | (with_reducible refine Below.trans ?_ (Below.mono hb8 ?_)) | (with_reducible refine Below.trans ?_ (Below.mono hb9 ?_)) | (with_reducible refine Below.trans ?_ (Below.mono hb10 ?_)) | (with_reducible refine Below.trans ?_ (Below.mono hb11 ?_)) | (with_reducible refine Below.trans ?_ (Below.mono hb12 ?_)) | (with_reducible refine Below.trans ?_ (Below.mono hb13 ?_)) | (with_reducible refine Below.trans ?_ (Below.mono hb14 ?_)) | (with_reducible refine Below.trans ?_ (Below.mono hb15 ?_)) | omega | (simp; done) | (simp; omega)))
  · have hv : affV l s ts = low (affOf (knowns l s ts)).1 ((affOf (knowns l s ts)).2 * ts.length) := by simp only [affV, if_neg h0]
    rw [hv]
    clear hv
    have h0' : 0 < ts.length := by omega
    have hq0 : ((ts.length : Int) == 0) = false := beq_eq_false_iff_ne.2 (by omega)
    have hbdA := aff_bd (ts := ts) hlen hok htk htl
    clear h0
    go_enter Tryd.func51, Tryd.ntmps51
    go_wp2_with fail
    refine (zero_any _).mono ?_
    rintro e w0 ⟨rfl, hb0⟩
    have hz0 := hb0.size
    simp at hz0
    have hR := hR0.below hb0
    have hb0' : Below w.heap.size w w0 := by (repeat' (first | exact Below.refl _ _ | assumption | refine Below.setCell ?_ ?_ _ | refine below_drewN ?_ _ | refine Below.drew ?_ | refine Below.alloc ?_ ?_ _ | (with_reducible refine Below.trans ?_ (Below.mono hb ?_)) | (with_reducible refine Below.trans ?_ (Below.mono hb0 ?_)) | (with_reducible refine Below.trans ?_ (Below.mono hb1 ?_)) | (with_reducible refine Below.trans ?_ (Below.mono hb2 ?_)) | (with_reducible refine Below.trans ?_ (Below.mono hb3 ?_)) | (with_reducible refine Below.trans ?_ (Below.mono hb4 ?_)) | (with_reducible refine Below.trans ?_ (Below.mono hb5 ?_)) | (with_reducible refine Below.trans ?_ (Below.mono hb6 ?_)) | (with_reducible refine Below.trans ?_ (Below.mono hb7 ?_)) | (with_reducible refine Below.trans ?_ (Below.mono hb8 ?_)) | (with_reducible refine Below.trans ?_ (Below.mono hb9 ?_)) | (with_reducible refine Below.trans ?_ (Below.mono hb10 ?_)) | (with_reducible refine Below.trans ?_ (Below.mono hb11 ?_)) | (with_reducible refine Below.trans ?_ (Below.mono hb12 ?_)) | (with_reducible refine Below.trans ?_ (Below.mono hb13 ?_)) | (with_reducible refine Below.trans ?_ (Below.mono hb14 ?_)) | (with_reducible refine Below.trans ?_ (Below.mono hb15 ?_)) | omega | (simp; done) | (simp; omega)))
    go_wp2_with fail
    go_loopg [17] ts.length (fun gk i wr => ∃ k : Nat, i = .int .i64 k ∧ k ≤ ts.length ∧ Hid (gk = ts.length - k) ∧ Box wr w.heap.size 37 #[.int .i64 0, .int .i64 0] ∧ Box wr w0.heap.size 37 #[.int .i64 (affOf (knowns l s (ts.take k))).1, .int .i64 (affOf (knowns l s (ts.take k))).2] ∧ Below w.heap.size w wr)
    case atStart => exact ⟨0, rfl, by omega, rfl, hR.alloc _, Box.new _ _ _, by (repeat' (first | exact Below.refl _ _ | assumption | refine Below.setCell ?_ ?_ _ | refine below_drewN ?_ _ | refine Below.drew ?_ | refine Below.alloc ?_ ?_ _ | (with_reducible refine Below.trans ?_ (Below.mono hb ?_)) | (with_reducible refine Below.trans ?_ (Below.mono hb0 ?_)) | (with_reducible refine Below.trans ?_ (Below.mono hb1 ?_)) | (with_reducible refine Below.trans ?_ (Below.mono hb2 ?_)) | (with_reducible refine Below.trans ?_ (Below.mono hb3 ?_)) | (with_reducible refine Below.trans ?_ (Below.mono hb4 ?_)) | (with_reducible refine Below.trans ?_ (Below.mono hb5 ?_)) | (with_reducible refine Below.trans ?_ (Below.mono hb6 ?_)) | (with_reducible refine Below.trans ?_ (Below.mono hb7 ?_)) | (with_reducible refine Below.trans ?_ (Below.mono hb8 ?_)) | (with_reducible refine Below.trans ?_ (Below.mono hb9 ?_)) | (with_reducible refine Below.trans ?_ (Below.mono hb10 ?_)) | (with_reducible refine Below.trans ?_ (Below.mono hb11 ?_)) | (with_reducible refine Below.trans ?_ (Below.mono hb12 ?_)) | (with_reducible refine Below.trans ?_ (Below.mono hb13 ?_)) | (with_reducible refine Below.trans ?_ (Below.mono hb14 ?_)) | (with_reducible refine Below.trans ?_ (Below.mono hb15 ?_)) | omega | (simp; done) | (simp; omega)))⟩
    case round =>
      clear hR hR0
      obtain ⟨k, rfl, hk, hgk, hR, hO, hb⟩ := hrel
      have hz := hb.size
      have hO1 := hO.lt
      by_cases hlt : k < ts.length
      · obtain ⟨b, off, ha, c0⟩ := (ht.below hb).str hlt
        have Hst := Lib.hid (aff_snoc l s hlt)
        obtain ⟨⟨q1, q2⟩, q3, q4⟩ := aff_bd (l := l) (s := s) (ts := ts.take k) hlen hok (fun x hx => htk x (List.mem_of_mem_take hx)) (by rw [List.length_take]; omega)
        obtain ⟨⟨q5, q6⟩, q7, q8⟩ := best_bd2 ts[k] hlen hok (htk ts[k] (List.getElem_mem hlt))
        have HB := Lib.hid (fun w h1 h2 => best_any l fb s a2 cap2 ts[k] w h1 h2 hlen hsl hok.ok)
        rw [ha]
        unfold affStep at Hst
        unfold becV at HB
        generalize affOf (knowns l s (ts.take k)) = A at *
        generalize bestOf l s ts[k] = o at *
        generalize ts[k] = t at *
        obtain ⟨A1, A2⟩ := A
        obtain ⟨o1, o2, o3⟩ := o
        simp only at q1 q2 q3 q4 q5 q6 q7 q8 hO Hst HB
        have hm1 := mul_bd2 q1 q2 (by omega : 0 ≤ o3) q8
        have hm2 := mul_bd2 q5 q6 (by omega : 0 ≤ A2) q4
        have hm3 := mul_pos A2 o3 q3 q7
        have hm4 := (mul_bd2 (by omega : 0 ≤ A2) q4 (by omega : 0 ≤ o3) q8).2
        have HP := Lib.hid (fun w => plus_any A1 A2 o2 o3 w (by omega) (by omega) (by omega) (by omega) (by omega))
        unfold low at HP
        generalize lowN (A1 * o3 + o2 * A2) (A2 * o3) = pn at *
        generalize lowD (A1 * o3 + o2 * A2) (A2 * o3) = pd at *
        have hFr := hF.below hb
        have hsr := hs.below hb
        have hO_l := hO.lt; have hO_0 := hO.cell 0; have hO_1 := hO.cell 1; simp at hO_0 hO_1
        have hO_f0 := hO.frozen 0; have hO_f1 := hO.frozen 1
        have hfld : ∀ W, (Instr.field 60 (.agg #[.string t, .string o1, .int .i64 o2, .int .i64 o3]) 2).run Tryd.prog W = .ok (.agg #[.int .i64 o2, .int .i64 o3]) W := fun _ => by kernel_rfl
        clear hm1 hm2 hm3 hm4 hbdA
        go_wp2_with fail
        go_region_with (first | (go_at_call 52; refine (HB.out _ (hFr.below (Below.refl _ _).drew) hsr.drew).mono ?_; rintro e w1 ⟨rfl, hb1⟩; have hOa := hO.drew.below hb1; have hOa_l := hOa.lt; have hOa_0 := hOa.cell 0; have hOa_1 := hOa.cell 1; simp at hOa_0 hOa_1) | (go_at_call 61; refine (HP.out _).mono ?_; rintro e w2 ⟨rfl, hb2⟩; have hOb := hOa.below hb2; have hOb_l := hOb.lt; have hOb_0 := hOb.cell 0; have hOb_1 := hOb.cell 1; simp at hOb_0 hOb_1; have hOb_f0 := hOb.frozen 0; have hOb_f1 := hOb.frozen 1))
        all_goals
          have hz1 := hb1.size
          have hz2 := hb2.size
          simp at hz1 hz2
          have hRb := (hR.drew.below hb1).below hb2
          have hbw : Below w.heap.size w w2 := below_next (below_next hb.drew hb1) hb2
          clear hfld
          go_wp2_with fail
          rw [← ha]
          go_roundg (ts.length - (k + 1))
          case measure => have := hgk.out; omega
          case rel => exact ⟨k + 1, by go_num, by omega, rfl, (hRb.setOther (show w0.heap.size ≠ w.heap.size by omega) _).setOther (show w0.heap.size ≠ w.heap.size by omega) _, by rw [Hst.out]; exact (hOb.set 0 _).set 1 _, by (repeat' (first | exact Below.refl _ _ | assumption | refine Below.setCell ?_ ?_ _ | refine below_drewN ?_ _ | refine Below.drew ?_ | refine Below.alloc ?_ ?_ _ | (with_reducible refine Below.trans ?_ (Below.mono hb ?_)) | (with_reducible refine Below.trans ?_ (Below.mono hb0 ?_)) | (with_reducible refine Below.trans ?_ (Below.mono hb1 ?_)) | (with_reducible refine Below.trans ?_ (Below.mono hb2 ?_)) | (with_reducible refine Below.trans ?_ (Below.mono hb3 ?_)) | (with_reducible refine Below.trans ?_ (Below.mono hb4 ?_)) | (with_reducible refine Below.trans ?_ (Below.mono hb5 ?_)) | (with_reducible refine Below.trans ?_ (Below.mono hb6 ?_)) | (with_reducible refine Below.trans ?_ (Below.mono hb7 ?_)) | (with_reducible refine Below.trans ?_ (Below.mono hb8 ?_)) | (with_reducible refine Below.trans ?_ (Below.mono hb9 ?_)) | (with_reducible refine Below.trans ?_ (Below.mono hb10 ?_)) | (with_reducible refine Below.trans ?_ (Below.mono hb11 ?_)) | (with_reducible refine Below.trans ?_ (Below.mono hb12 ?_)) | (with_reducible refine Below.trans ?_ (Below.mono hb13 ?_)) | (with_reducible refine Below.trans ?_ (Below.mono hb14 ?_)) | (with_reducible refine Below.trans ?_ (Below.mono hb15 ?_)) | omega | (simp; done) | (simp; omega)))⟩
      · obtain rfl : k = ts.length := by omega
        rw [List.take_length] at hO
        obtain ⟨⟨q1, q2⟩, q3, q4⟩ := hbdA
        generalize affOf (knowns l s ts) = A at *
        obtain ⟨A1, A2⟩ := A
        simp only at q1 q2 q3 q4 hO
        have hm := mul_bd2 (by omega : 0 ≤ A2) q4 (by omega : (0 : Int) ≤ ts.length) (by omega : (ts.length : Int) ≤ 8)
        have hm2 := mul_pos A2 ts.length q3 (by omega)
        have HL := Lib.hid (fun w => lowest_any A1 (A2 * ts.length) w (by omega) (by omega) hm2)
        have hO_l := hO.lt; have hO_0 := hO.cell 0; have hO_1 := hO.cell 1; simp at hO_0 hO_1
        go_wp2_with fail
        refine (HL.out _).mono ?_
        rintro e w1 ⟨rfl, hb1⟩
        have hz1 := hb1.size
        have hR1 := hR.below hb1
        have hR1_f0 := hR1.frozen 0; have hR1_f1 := hR1.frozen 1
        have hR1_l := hR1.lt; have hR1_0 := hR1.cell 0; have hR1_1 := hR1.cell 1; simp at hR1_0 hR1_1
        unfold low
        go_wp2_with fail
        refine bodyPost_ret (v := .agg #[.int .i64 (lowN A1 (A2 * ts.length)), .int .i64 (lowD A1 (A2 * ts.length))]) (by simp only [results, Tryd.results51]; go_simp) rfl ⟨rfl, ?_⟩
        (repeat' (first | exact Below.refl _ _ | assumption | refine Below.setCell ?_ ?_ _ | refine below_drewN ?_ _ | refine Below.drew ?_ | refine Below.alloc ?_ ?_ _ | (with_reducible refine Below.trans ?_ (Below.mono hb ?_)) | (with_reducible refine Below.trans ?_ (Below.mono hb0 ?_)) | (with_reducible refine Below.trans ?_ (Below.mono hb1 ?_)) | (with_reducible refine Below.trans ?_ (Below.mono hb2 ?_)) | (with_reducible refine Below.trans ?_ (Below.mono hb3 ?_)) | (with_reducible refine Below.trans ?_ (Below.mono hb4 ?_)) | (with_reducible refine Below.trans ?_ (Below.mono hb5 ?_)) | (with_reducible refine Below.trans ?_ (Below.mono hb6 ?_)) | (with_reducible refine Below.trans ?_ (Below.mono hb7 ?_)) | (with_reducible refine Below.trans ?_ (Below.mono hb8 ?_)) | (with_reducible refine Below.trans ?_ (Below.mono hb9 ?_)) | (with_reducible refine Below.trans ?_ (Below.mono hb10 ?_)) | (with_reducible refine Below.trans ?_ (Below.mono hb11 ?_)) | (with_reducible refine Below.trans ?_ (Below.mono hb12 ?_)) | (with_reducible refine Below.trans ?_ (Below.mono hb13 ?_)) | (with_reducible refine Below.trans ?_ (Below.mono hb14 ?_)) | (with_reducible refine Below.trans ?_ (Below.mono hb15 ?_)) | omega | (simp; done) | (simp; omega)))
end Go.Proofs.YtfpoaggkjhcdnaaDoor
