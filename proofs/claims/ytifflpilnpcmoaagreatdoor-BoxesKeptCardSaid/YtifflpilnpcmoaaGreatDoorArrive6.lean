/- Whether an arrival counts: Counts and CountsOf. -/
import Derived.Test.YtifflpilnpcmoaaGreatDoorArrive5
namespace Go.Proofs.YtifflpilnpcmoaaGreatDoor
open Go.RowKit
set_option linter.unusedVariables false
set_option linter.unusedSimpArgs false

def cntE (cf af : Int) : Int := if cf = 0 then af else cf
def cntV (cf af cn : Int) : Int := if cf = 0 then (if af = 0 then cn else 0) else 0
set_option maxRecDepth 100000 in
set_option maxHeartbeats 4000000 in
theorem countsOf_any (o a f : Int) (s : List Skill) (a3 : Option Addr) (c3 : Nat) (p : ByteArray) (t k : Int) (r x : ByteArray) (w : World) (hs : SA w a3 s) (hsl : s.length ≤ 1000000) (hbd : ∀ x ∈ s, 0 ≤ x.2 ∧ x.2 ≤ 10000000) (ha : 0 ≤ a) (ha2 : a ≤ 10000000) (hf : 0 ≤ f) (hf2 : f ≤ 10000000) (hk : kindB k = true) :
    Calls Tryz.prog 47 #[callAgg o a f s a3 c3, arrAgg p t k r x] w (Gives (.int .i64 (cntN o a f s t k r)) w) := by
  have HD := Lib.hid (fun w (h : SA w a3 s) => deadlineOf_any o a f s a3 c3 k r w h hsl hbd ha ha2 hf hf2)
  have HC := Lib.hid (show cntN o a f s t k r = if moreB s r = false then 4 else if t < o then 2 else if min (befN a f k + moreN s r) 5761440 ≤ t then 3 else 1 from rfl)
  have HdN := Lib.hid (show dlN a f s k r = if moreB s r = false then 0 else min (befN a f k + moreN s r) 5761440 by unfold dlN; rw [hk, if_neg (by decide)])
  have HdE := Lib.hid (show dlE s k r = if moreB s r = false then 8 else 0 by unfold dlE; rw [hk, if_neg (by decide)])
  generalize cntN o a f s t k r = cn at *
  generalize dlN a f s k r = dn at *
  generalize dlE s k r = de at *
  generalize moreN s r = mn at *
  generalize moreB s r = mb at *
  generalize befN a f k = bf at *
  unfold callAgg at *
  unfold arrAgg
  have hbx := (Box.new w 28 #[.int .i64 o, .int .i64 a, .int .i64 f, .slice a3 s.length c3]).alloc (.cells #[.string p, .int .i64 t, .int .i64 k, .string r, .string x] 63)
  have hby := Box.newAt (w.alloc (.cells #[.int .i64 o, .int .i64 a, .int .i64 f, .slice a3 s.length c3] 28)) (w.heap.size + 1) 63 #[.string p, .int .i64 t, .int .i64 k, .string r, .string x] (by simp)
  go_enter Tryz.func47, Tryz.ntmps47
  go_wp2_with fail
  refine (HD.out _ ((hs.alloc _).alloc _)).mono ?_
  rintro e w1 ⟨rfl, hb1⟩
  have hz1 := hb1.size
  simp at hz1
  have hbx1 := hbx.below hb1
  have hby1 := hby.below hb1
  have hb1' : Below w.heap.size w w1 := by (repeat' (first | exact Below.refl _ _ | assumption | refine Below.setCell ?_ ?_ _ | refine below_drewN ?_ _ | refine Below.drew ?_ | refine Below.alloc ?_ ?_ _ | (with_reducible refine Below.trans ?_ (Below.mono hb ?_)) | (with_reducible refine Below.trans ?_ (Below.mono hb0 ?_)) | (with_reducible refine Below.trans ?_ (Below.mono hb1 ?_)) | (with_reducible refine Below.trans ?_ (Below.mono hb2 ?_)) | (with_reducible refine Below.trans ?_ (Below.mono hb3 ?_)) | (with_reducible refine Below.trans ?_ (Below.mono hb4 ?_)) | (with_reducible refine Below.trans ?_ (Below.mono hb5 ?_)) | (with_reducible refine Below.trans ?_ (Below.mono hb6 ?_)) | (with_reducible refine Below.trans ?_ (Below.mono hb7 ?_)) | (with_reducible refine Below.trans ?_ (Below.mono hb8 ?_)) | (with_reducible refine Below.trans ?_ (Below.mono hb9 ?_)) | (with_reducible refine Below.trans ?_ (Below.mono hb10 ?_)) | (with_reducible refine Below.trans ?_ (Below.mono hb11 ?_)) | (with_reducible refine Below.trans ?_ (Below.mono hb12 ?_)) | (with_reducible refine Below.trans ?_ (Below.mono hb13 ?_)) | (with_reducible refine Below.trans ?_ (Below.mono hb14 ?_)) | (with_reducible refine Below.trans ?_ (Below.mono hb15 ?_)) | omega | (simp; done) | (simp; omega)))
  clear hbx hby hb1
  cases mb
  · rw [if_pos rfl] at HC HdN HdE
    have H1 := HC
    obtain rfl : de = 8 := HdE.out
    go_wp2_with fail
    go_ret
    exact ⟨by rw [H1.out]; rfl, hb1'⟩
  rw [if_neg (by decide)] at HC HdN HdE
  obtain rfl : de = 0 := HdE.out
  rw [← HdN.out] at HC
  clear HdN HdE
  have hbx1_l := hbx1.lt; have hbx1_0 := hbx1.cell 0; have hbx1_1 := hbx1.cell 1; have hbx1_2 := hbx1.cell 2; have hbx1_3 := hbx1.cell 3; simp at hbx1_0 hbx1_1 hbx1_2 hbx1_3
  have hby1_l := hby1.lt; have hby1_0 := hby1.cell 0; have hby1_1 := hby1.cell 1; have hby1_2 := hby1.cell 2; have hby1_3 := hby1.cell 3; have hby1_4 := hby1.cell 4; simp at hby1_0 hby1_1 hby1_2 hby1_3 hby1_4
  by_cases hto : t < o
  · have H1 := Lib.hid (show cn = 2 by rw [HC.out, if_pos hto])
    go_wp2_with fail
    go_ret
    exact ⟨by rw [H1.out]; rfl, hb1'⟩
  rw [if_neg hto] at HC
  have hto' : decide (t < o) = false := decide_eq_false hto
  by_cases hdt : dn ≤ t
  · have H1 := Lib.hid (show cn = 3 by rw [HC.out, if_pos hdt])
    go_wp2_with fail
    go_ret
    exact ⟨by rw [H1.out]; rfl, hb1'⟩
  · have H1 := Lib.hid (show cn = 1 by rw [HC.out, if_neg hdt])
    have hdt' : decide (dn ≤ t) = false := decide_eq_false hdt
    go_wp2_with fail
    go_ret
    exact ⟨by rw [H1.out]; rfl, hb1'⟩
end Go.Proofs.YtifflpilnpcmoaaGreatDoor
