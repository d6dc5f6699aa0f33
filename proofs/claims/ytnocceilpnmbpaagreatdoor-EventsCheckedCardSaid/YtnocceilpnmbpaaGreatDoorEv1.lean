/- What is wrong with an event by itself; its sum: of program and reference. -/
import Derived.Test.YtnocceilpnmbpaaGreatDoorDig
import Derived.Test.YtnocceilpnmbpaaGreatDoorRiseK
import Derived.Test.YtnocceilpnmbpaaGreatDoorOutside
import Derived.Test.YtnocceilpnmbpaaGreatDoorReg
import Derived.Test.YtnocceilpnmbpaaGreatDoorSortF
namespace Go.Proofs.YtnocceilpnmbpaaGreatDoor
open Go.RowKit
set_option linter.unusedVariables false
set_option linter.unusedSimpArgs false

theorem ascii_hexSet : ∀ (j : Nat) b, hexSet.data.toList[j]? = some b → b.toNat < 128 := ascii_of_all (by decide)
set_option maxHeartbeats 1000000 in
theorem isSum_any (s : ByteArray) (w : World) (hs : s.size ≤ 1000000) : Calls Tryz.prog 48 #[.string s] w (Gives (.bool (sumB s)) w) := by
 have hcon := Lib.hid (fun w => Any.strings_Trim_laid Tryz.lays160 (by kernel_rfl) s hexSet w (by omega) (by decide) ascii_hexSet)
 have hv : allIn s hexSet.data.toList = (Lib.trimS s.data.toList hexSet.data.toList).isEmpty := by
  rw [Bool.eq_iff_iff, List.isEmpty_iff, trimS_nil]; rfl
 unfold sumB
 rw [hv]
 clear hv
 generalize Lib.trimS s.data.toList hexSet.data.toList = r at *
 unfold hexSet at hcon
 by_cases h16 : s.size = 16
 ·
  have hd : ((s.size : Int) == 16) = true := by simp [h16]
  rw [decide_eq_true h16]
  clear h16
  go_enter Tryz.func48, Tryz.ntmps48
  go_wp2_with fail
  refine (hcon.out _).mono ?_
  rintro e w1 ⟨rfl, hb⟩
  go_wp2_with fail
  go_ret
  refine ⟨?_, hb⟩
  cases r <;> simp
 ·
  have hd : ((s.size : Int) == 16) = false := beq_eq_false_iff_ne.2 (by omega)
  rw [decide_eq_false h16]
  clear h16
  go_enter Tryz.func48, Tryz.ntmps48
  go_wp2_with fail
  go_ret
  exact ⟨rfl, Below.refl _ _⟩
set_option maxHeartbeats 1000000 in
theorem refSum_any (s : ByteArray) (w : World) (hs : s.size ≤ 1000000) : Calls Tryz.prog 52 #[.string s] w (Gives (.bool (sumB s)) w) := by
 have hcon := Lib.hid (fun w => made_any s hexSet w (by omega) (by decide) ascii_hexSet)
 unfold sumB
 generalize allIn s hexSet.data.toList = r at *
 unfold hexSet at hcon
 by_cases h16 : s.size = 16
 ·
  have hd : ((s.size : Int) == 16) = true := by simp [h16]
  rw [decide_eq_true h16]
  clear h16
  go_enter Tryz.func52, Tryz.ntmps52
  go_wp2_with fail
  refine (hcon.out _).mono ?_
  rintro e w1 ⟨rfl, hb⟩
  go_wp2_with fail
  go_ret
  exact ⟨rfl, hb⟩
 ·
  have hd : ((s.size : Int) == 16) = false := beq_eq_false_iff_ne.2 (by omega)
  rw [decide_eq_false h16]
  clear h16
  go_enter Tryz.func52, Tryz.ntmps52
  go_wp2_with fail
  go_ret
  exact ⟨rfl, Below.refl _ _⟩
theorem dash_any (s : ByteArray) (w : World) : Calls Tryz.prog 97 #[.string s] w (fun e w' => e = .returned (.string (dashB s)) ∧ w = w') := by
 unfold dashB
 by_cases h0 : s.size = 0
 ·
  have he1 : s.toList = [] := List.isEmpty_iff.1 (by rw [isEmpty_size, decide_eq_true h0])
  rw [if_pos h0]
  clear h0
  go_enter Tryz.func97, Tryz.ntmps97
  go_wp2_with fail
  go_ret
  exact ⟨rfl, rfl⟩
 ·
  have he2 : s.toList.isEmpty = false := by rw [isEmpty_size, decide_eq_false h0]
  have he1 : s.toList ≠ [] := fun h => by rw [h] at he2; cases he2
  rw [if_neg h0]
  clear h0
  go_enter Tryz.func97, Tryz.ntmps97
  go_wp2_with fail
  go_ret
  exact ⟨rfl, rfl⟩
theorem refDash_any (s : ByteArray) (w : World) : Calls Tryz.prog 87 #[.string s] w (fun e w' => e = .returned (.string (dashB s)) ∧ w = w') := by
 unfold dashB
 by_cases h0 : s.size = 0
 ·
  have he1 : s.toList = [] := List.isEmpty_iff.1 (by rw [isEmpty_size, decide_eq_true h0])
  rw [if_pos h0]
  clear h0
  go_enter Tryz.func87, Tryz.ntmps87
  go_wp2_with fail
  go_ret
  exact ⟨rfl, rfl⟩
 ·
  have he2 : s.toList.isEmpty = false := by rw [isEmpty_size, decide_eq_false h0]
  have he1 : s.toList ≠ [] := fun h => by rw [h] at he2; cases he2
  rw [if_neg h0]
  clear h0
  go_enter Tryz.func87, Tryz.ntmps87
  go_wp2_with fail
  go_ret
  exact ⟨rfl, rfl⟩

set_option maxRecDepth 100000 in
set_option maxHeartbeats 4000000 in
theorem sumsFault_any (s : List ByteArray) (a : Option Addr) (cap : Nat) (w : World) (hs : SA w a s) (hsl : s.length ≤ 1000000) (hsm : ∀ x ∈ s, x.size ≤ 1000) :
  Calls Tryz.prog 95 #[.slice a s.length cap] w (Gives (.int .i64 (sumsF s)) w) := by
 unfold sumsF
 have HK := Lib.hid isSum_any
 go_enter Tryz.func95, Tryz.ntmps95
 go_wp2_with fail
 go_loopg [7] s.length (fun gk i wr => ∃ k : Nat, i = .int .i64 k ∧ k ≤ s.length ∧ Hid (gk = s.length - k) ∧ Hid (∀ j, j < k → sumsE s j = 0) ∧ Below w.heap.size w wr)
 case atStart => exact ⟨0, rfl, by omega, rfl, fun j hj => by omega, Below.refl _ _⟩
 case round =>
  obtain ⟨k, rfl, hk, hgk, hf, hb⟩ := hrel
  by_cases hlt : k < s.length
  ·
   obtain ⟨b, off, ha, c0⟩ := (hs.below hb).str hlt
   have hE : sumsE s k = if sumB s[k] = false then 3 else if ordB s k then 7 else 0 := by
    unfold sumsE; rw [List.getElem?_eq_getElem hlt]
   have HE := Lib.hid hE
   have hxs := hsm s[k] (List.getElem_mem hlt)
   clear hE
   rw [ha]
   generalize hx : s[k] = x1 at *
   have Hx := Lib.hid hx
   clear hx
   have hz := hb.size
   have Hfe := Lib.hid (fun (e : Int) he he0 => firstErr_is (f := sumsE s) (e := e) hlt hf.out he he0)
   go_wp2_with fail
   refine (HK.out x1 _ (by omega)).mono ?_
   rintro e w1 ⟨rfl, hb1⟩
   have hb1' : Below w.heap.size w w1 := below_next hb hb1
   cases hh : sumB x1
   ·
    rw [hh] at HE
    have He := Lib.hid (Hfe.out 3 (by rw [HE.out]; rfl) (by decide))
    go_wp2_with fail
    go_ret
    exact ⟨by rw [He.out]; rfl, hb1'⟩
   ·
    rw [hh] at HE
    go_upto_region 6 with (fail)
    go_cut [25] (fun v wx => v = .bool (ordB s k) ∧ ∃ n, wx = w1.drewN n)
    case first =>
     by_cases hk0 : k = 0
     ·
      have hd : decide (0 < k) = false := by simp [hk0]
      have hd' : decide ((0 : Int) < (k : Int)) = false := by simp [hk0]
      have ho0 : ordB s k = false := by rw [hk0]; rfl
      have Ho := Lib.hid ho0
      clear hk0 ho0
      go_wp2_with fail
      skip
      go_meet
      exact ⟨by rw [Ho.out] <;> rfl, 0, rfl⟩
     ·
      obtain ⟨p, hp⟩ : ∃ p, k = p + 1 := ⟨k - 1, by omega⟩
      have hpl : p < s.length := by omega
      obtain ⟨b', off', ha', d0⟩ := (hs.below hb1').str hpl; generalize hy : s[p] = y at *; have Hy := Lib.hid hy; clear hy
      rw [ha] at ha'
      cases ha'
      have Ho := Lib.hid (ordB_at (ks := s) (k := k) (p := p) (x := x1) (y := y) hp (by have := Hx.out; simp [List.getElem?_eq_getElem hlt, this]) (by have := Hy.out; simp [List.getElem?_eq_getElem hpl, this]))
      have hwp : IntKind.i64.wrap ((k : Int) - 1) = (p : Int) := by rw [hp, IntWalk.i64_in _ (by omega)]; omega
      have hk1 : 0 < k := by omega
      have hk2 : (0 : Int) < (k : Int) := by omega
      have hp1 : (0 : Int) ≤ (p : Int) := by omega
      have hp2 : (p : Int) < (s.length : Int) := by omega
      have hp3 : (k : Int) - 1 = (p : Int) := by omega
      have Hp := Lib.hid hp
      clear hp hk0
      go_wp2_with fail
      skip
      go_meet
      exact ⟨by rw [Ho.out] <;> rfl, 0, rfl⟩
    case rest =>
     obtain ⟨hso, n, rfl⟩ := hcut
     rw [hso]
     cases hob : ordB s k
     ·
      rw [hob] at HE
      go_wp2_with fail
      rw [← ha]
      go_roundg (s.length - (k + 1))
      case measure => have := hgk.out; omega
      case rel => exact ⟨k + 1, by go_num, by omega, rfl, zeros_succ hf.out (by rw [HE.out]; rfl), below_drewN hb1' _⟩
     ·
      rw [hob] at HE
      have He := Lib.hid (Hfe.out 7 (by rw [HE.out]; rfl) (by decide))
      go_wp2_with fail
      go_ret
      exact ⟨by rw [He.out]; rfl, below_drewN hb1' _⟩
  ·
   have hE0 : firstErr (sumsE s) s.length = 0 := by
    obtain rfl : k = s.length := by omega
    exact firstErr_zero hf.out
   have HE0 := Lib.hid hE0
   clear hE0
   go_wp2_with fail
   go_ret
   exact ⟨by rw [HE0.out]; rfl, hb⟩
set_option maxRecDepth 100000 in
set_option maxHeartbeats 4000000 in
theorem refSums_any (s : List ByteArray) (a : Option Addr) (cap : Nat) (w : World) (hs : SA w a s) (hsl : s.length ≤ 1000000) (hsm : ∀ x ∈ s, x.size ≤ 1000) :
  Calls Tryz.prog 54 #[.slice a s.length cap] w (Gives (.int .i64 (sumsF s)) w) := by
 unfold sumsF
 have HK := Lib.hid refSum_any
 go_enter Tryz.func54, Tryz.ntmps54
 go_wp2_with fail
 go_loopg [7] s.length (fun gk i wr => ∃ k : Nat, i = .int .i64 k ∧ k ≤ s.length ∧ Hid (gk = s.length - k) ∧ Hid (∀ j, j < k → sumsE s j = 0) ∧ Below w.heap.size w wr)
 case atStart => exact ⟨0, rfl, by omega, rfl, fun j hj => by omega, Below.refl _ _⟩
 case round =>
  obtain ⟨k, rfl, hk, hgk, hf, hb⟩ := hrel
  by_cases hlt : k < s.length
  ·
   obtain ⟨b, off, ha, c0⟩ := (hs.below hb).str hlt
   have hE : sumsE s k = if sumB s[k] = false then 3 else if ordB s k then 7 else 0 := by
    unfold sumsE; rw [List.getElem?_eq_getElem hlt]
   have HE := Lib.hid hE
   have hxs := hsm s[k] (List.getElem_mem hlt)
   clear hE
   rw [ha]
   generalize hx : s[k] = x1 at *
   have Hx := Lib.hid hx
   clear hx
   have hz := hb.size
   have Hfe := Lib.hid (fun (e : Int) he he0 => firstErr_is (f := sumsE s) (e := e) hlt hf.out he he0)
   go_wp2_with fail
   refine (HK.out x1 _ (by omega)).mono ?_
   rintro e w1 ⟨rfl, hb1⟩
   have hb1' : Below w.heap.size w w1 := below_next hb hb1
   cases hh : sumB x1
   ·
    rw [hh] at HE
    have He := Lib.hid (Hfe.out 3 (by rw [HE.out]; rfl) (by decide))
    go_wp2_with fail
    go_ret
    exact ⟨by rw [He.out]; rfl, hb1'⟩
   ·
    rw [hh] at HE
    go_upto_region 6 with (fail)
    go_cut [25] (fun v wx => v = .bool (ordB s k) ∧ ∃ n, wx = w1.drewN n)
    case first =>
     by_cases hk0 : k = 0
     ·
      have hd : decide (0 < k) = false := by simp [hk0]
      have hd' : decide ((0 : Int) < (k : Int)) = false := by simp [hk0]
      have ho0 : ordB s k = false := by rw [hk0]; rfl
      have Ho := Lib.hid ho0
      clear hk0 ho0
      go_wp2_with fail
      skip
      go_meet
      exact ⟨by rw [Ho.out] <;> rfl, 0, rfl⟩
     ·
      obtain ⟨p, hp⟩ : ∃ p, k = p + 1 := ⟨k - 1, by omega⟩
      have hpl : p < s.length := by omega
      obtain ⟨b', off', ha', d0⟩ := (hs.below hb1').str hpl; generalize hy : s[p] = y at *; have Hy := Lib.hid hy; clear hy
      rw [ha] at ha'
      cases ha'
      have Ho := Lib.hid (ordB_at (ks := s) (k := k) (p := p) (x := x1) (y := y) hp (by have := Hx.out; simp [List.getElem?_eq_getElem hlt, this]) (by have := Hy.out; simp [List.getElem?_eq_getElem hpl, this]))
      have hwp : IntKind.i64.wrap ((k : Int) - 1) = (p : Int) := by rw [hp, IntWalk.i64_in _ (by omega)]; omega
      have hk1 : 0 < k := by omega
      have hk2 : (0 : Int) < (k : Int) := by omega
      have hp1 : (0 : Int) ≤ (p : Int) := by omega
      have hp2 : (p : Int) < (s.length : Int) := by omega
      have hp3 : (k : Int) - 1 = (p : Int) := by omega
      have Hp := Lib.hid hp
      clear hp hk0
      go_wp2_with fail
      skip
      go_meet
      exact ⟨by rw [Ho.out] <;> rfl, 0, rfl⟩
    case rest =>
     obtain ⟨hso, n, rfl⟩ := hcut
     rw [hso]
     cases hob : ordB s k
     ·
      rw [hob] at HE
      go_wp2_with fail
      rw [← ha]
      go_roundg (s.length - (k + 1))
      case measure => have := hgk.out; omega
      case rel => exact ⟨k + 1, by go_num, by omega, rfl, zeros_succ hf.out (by rw [HE.out]; rfl), below_drewN hb1' _⟩
     ·
      rw [hob] at HE
      have He := Lib.hid (Hfe.out 7 (by rw [HE.out]; rfl) (by decide))
      go_wp2_with fail
      go_ret
      exact ⟨by rw [He.out]; rfl, below_drewN hb1' _⟩
  ·
   have hE0 : firstErr (sumsE s) s.length = 0 := by
    obtain rfl : k = s.length := by omega
    exact firstErr_zero hf.out
   have HE0 := Lib.hid hE0
   clear hE0
   go_wp2_with fail
   go_ret
   exact ⟨by rw [HE0.out]; rfl, hb⟩
end Go.Proofs.YtnocceilpnmbpaaGreatDoor
