/- The stream of raw numbers: Below and Next. -/
import Derived.Test.YtnocceilpnmbpaaGreatDoorBase
namespace Go.Proofs.YtnocceilpnmbpaaGreatDoor
open Go.RowKit
set_option linter.unusedVariables false

theorem tmod_bd (x n : Int) (hn : 1 ≤ n) : -n < x.tmod n ∧ x.tmod n < n := by
 have h1 := Int.tmod_lt_of_pos x (show 0 < n by omega)
 have h2 : -n < x.tmod n := by
  rcases Int.le_total 0 x with h | h
  ·
   have := Int.tmod_nonneg n h; omega
  ·
   have h3 : x.tmod n = -((-x).tmod n) := by rw [Int.neg_tmod]; omega
   have h4 := Int.tmod_lt_of_pos (-x) (show 0 < n by omega)
   omega
 exact ⟨h2, h1⟩

/-- A number below n was drawn from the stream. -/
def SomeNext (S : Nat) (B n : Int) (w : World) (e : Ending) (w' : World) : Prop :=
 ∃ r : Int, (0 ≤ r ∧ r < n) ∧ e = .returned (.int .i64 r) ∧ Stp S w w' ∧ Strm S (B + 1) w'

set_option maxHeartbeats 400000 in
theorem below_any (x n : Int) (w : World) (hn : 1 ≤ n) (hn2 : n ≤ 4611686018427387904) :
  Calls Tryz.prog 72 #[.int .i64 x, .int .i64 n] w (SomeInt (fun r => 0 ≤ r ∧ r < n) w) := by
 obtain ⟨h1, h2⟩ := tmod_bd x n hn
 go_enter Tryz.func72, Tryz.ntmps72
 go_wp2
 ·
  go_ret
  exact ⟨_, ⟨by omega, by omega⟩, rfl, rfl⟩
 ·
  go_ret
  exact ⟨_, ⟨by omega, by omega⟩, rfl, rfl⟩

theorem strm_step {S : Nat} {B k : Int} {w : World} {a : Option Addr} {len cap : Nat} {zs : List Int}
  (h1 : w.heap[S]? = some (.cells #[.slice a len cap, .int .i64 k] 25 (0, 0))) (h2 : 0 ≤ k) (h3 : k ≤ B) (h4 : RowBelow S w a len cap zs) (m : Nat) :
  Strm S (B + 1) ((w.setCell ⟨S, 1, none⟩ (.int .i64 (k + 1))).drewN m) := by
 refine Strm.drewN ⟨a, len, cap, zs, k + 1, ?_, by omega, by omega, h4.keep fun j hj => Below.heap_setCell _ _ _ _ (by simp; omega)⟩ m
 simp [World.setCell, Array.getElem?_modify, h1]

set_option maxHeartbeats 1000000 in
theorem next_any (S : Nat) (B n : Int) (w : World) (hs : Strm S B w) (hB : B ≤ 1000000000) (hn : 1 ≤ n) (hn2 : n ≤ 4611686018427387904) :
  Calls Tryz.prog 31 #[.pointer (some ⟨S, 0, none⟩), .int .i64 n] w (fun e w' => SomeNext S B n w e w') := by
 obtain ⟨a, len, cap, zs, k, h1, h2, h3, h4⟩ := hs
 have hc0 : w.cell? ⟨S, 0, none⟩ = some (.slice a len cap) := by simp [World.cell?, h1]
 have hc1 : w.cell? ⟨S, 1, none⟩ = some (.int .i64 k) := by simp [World.cell?, h1]
 have hf1 : w.frozen? ⟨S, 1, none⟩ = false := by simp [World.frozen?, h1]
 have hfin : ∀ r : Int, 0 ≤ r ∧ r < n → ∀ m, SomeNext S B n w (.returned (.int .i64 r)) ((w.setCell ⟨S, 1, none⟩ (.int .i64 (k + 1))).drewN m) := fun r hr m => ⟨r, hr, rfl, ((Stp.refl S w).setCell (.inl rfl) _).drewN m, strm_step h1 h2 h3 h4 m⟩
 have Hfin := Lib.hid hfin
 have H1 := Lib.hid h1
 clear h1 hfin
 rcases h4 with rfl | ⟨b, off, rfl, hb, hlen, hcap, hz, hcell, hwf⟩
 ·
  go_enter Tryz.func31, Tryz.ntmps31
  go_wp2_with (go_at_call 72; refine (below_any _ _ _ hn hn2).mono ?_; rintro e w' ⟨r, hr, rfl, rfl⟩)
  go_ret
  exact Hfin.out _ hr 0
 ·
  unfold maxLen at hcap
  by_cases hl0 : len = 0
  ·
   subst hl0
   go_enter Tryz.func31, Tryz.ntmps31
   go_wp2_with (go_at_call 72; refine (below_any _ _ _ hn hn2).mono ?_; rintro e w' ⟨r, hr, rfl, rfl⟩)
   go_ret
   exact Hfin.out _ hr 0
  ·
   have hlp : 0 < len := by omega
   obtain ⟨i, hi⟩ : ∃ i : Nat, k.tmod len = i := ⟨(k.tmod len).toNat, by have := Int.tmod_nonneg len h2; omega⟩
   have hil : i < len := by have := (tmod_bd k len (by omega)).2; omega
   have hq0 : 0 ≤ k.tdiv len := Int.tdiv_nonneg h2 (by omega)
   have hq1 : k.tdiv len ≤ k := by rw [Int.tdiv_eq_ediv_of_nonneg h2]; exact Int.ediv_le_self _ h2
   have hci := hcell i (by omega)
   generalize zs.getD i 0 = z at hci
   clear hcell hwf
   have hwk : IntKind.i64.wrap k = k := IntWalk.i64_in _ (by omega)
   have hl1 : ((len : Int) == 0) = false := by simp; omega
   have hSb : S ≠ b := by omega
   go_enter Tryz.func31, Tryz.ntmps31
   go_wp2_with fail
   go_quiet (fail)
   go_wp2_with fail
   go_quiet (fail)
   go_wp2_with fail
   refine (below_any _ _ _ (by omega) (by omega)).mono ?_
   rintro e w' ⟨z', ⟨hz0, hz1⟩, rfl, rfl⟩
   go_wp2_with fail
   refine (below_any _ _ _ hn hn2).mono ?_
   rintro e w' ⟨r, hr, rfl, rfl⟩
   go_wp2_with fail
   go_ret
   exact Hfin.out _ hr _

/-- A bool that a draw decides. -/
def SomeFlip (S : Nat) (B : Int) (w : World) (e : Ending) (w' : World) : Prop :=
 ∃ r : Bool, e = .returned (.bool r) ∧ Stp S w w' ∧ Strm S (B + 1) w'

set_option maxHeartbeats 400000 in
theorem flip_any (S : Nat) (B n : Int) (w : World) (hs : Strm S B w) (hB : B ≤ 1000000000) (hn : 1 ≤ n) (hn2 : n ≤ 4611686018427387904) :
  Calls Tryz.prog 7 #[.pointer (some ⟨S, 0, none⟩), .int .i64 n] w (fun e w' => SomeFlip S B w e w') := by
 go_enter Tryz.func7, Tryz.ntmps7
 go_wp2_with fail
 refine (next_any S B n _ hs hB hn hn2).mono ?_
 rintro e w' ⟨r, hr, rfl, h1, h2⟩
 go_wp2_with fail
 go_ret
 exact ⟨_, rfl, h1, h2⟩

/-- One of some numbers. -/
def SomePick (S : Nat) (B : Int) (zs : List Int) (w : World) (e : Ending) (w' : World) : Prop :=
 ∃ z : Int, z ∈ zs ∧ e = .returned (.int .i64 z) ∧ Stp S w w' ∧ Strm S (B + 1) w'

set_option maxHeartbeats 400000 in
theorem pick_any (S : Nat) (B : Int) (b off len cap : Nat) (zs : List Int) (w : World) (hs : Strm S B w) (hB : B ≤ 1000000000) (hl : zs.length = len) (hl1 : 1 ≤ len) (hl2 : len ≤ 1000) (hb : b < w.heap.size) (hbS : b ≠ S)
  (hc : ∀ i, i < len → w.cell? ⟨b, off + i, none⟩ = some (.int .i64 (zs.getD i 0))) :
  Calls Tryz.prog 14 #[.pointer (some ⟨S, 0, none⟩), .slice (some ⟨b, off, none⟩) len cap] w (fun e w' => SomePick S B zs w e w') := by
 have Hc := Lib.hid hc
 have Hl := Lib.hid hl
 clear hc hl
 go_enter Tryz.func14, Tryz.ntmps14
 go_wp2_with fail
 refine (next_any S B _ _ hs hB (by omega) (by omega)).mono ?_
 rintro e w' ⟨r, ⟨hr, hr2⟩, rfl, h1, h2⟩
 obtain ⟨i, rfl⟩ := Int.eq_ofNat_of_zero_le hr
 have hi : i < len := by omega
 have hc : w'.cell? ⟨b, off + i, none⟩ = some (.int .i64 (zs.getD i 0)) := by rw [h1.cell (p := ⟨b, off + i, none⟩) hb hbS]; exact Hc.out i hi
 have hm : zs.getD i 0 ∈ zs := by have := Hl.out; rw [List.getD_eq_getElem?_getD, List.getElem?_eq_getElem (by omega)]; exact List.getElem_mem _
 generalize zs.getD i 0 = z at hc hm
 go_wp2_with fail
 go_ret
 exact ⟨_, hm, rfl, h1, h2⟩

end Go.Proofs.YtnocceilpnmbpaaGreatDoor
